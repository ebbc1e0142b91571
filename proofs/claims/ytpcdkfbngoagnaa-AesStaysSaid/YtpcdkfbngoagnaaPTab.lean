import Derived.Test.YtpcdkfbngoagnaaCx13
import Derived.Test.YtpcdkfbngoagnaaCx12
namespace Go.Proofs.Ytpcdkfbngoagnaa.Pure
set_option linter.unusedVariables false
open Go.RowKit Go.Proofs.Ytpcdkfbngoagnaa.C Go.Proofs.YtpcdkfbngoagnaaW.PrintWords Go.Proofs.YtpcdkfbngoagnaaW.PrintLast Go.Proofs.YtpcdkfbngoagnaaW.PrintMore

theorem xorNat (k : IntKind) (j : Nat) (hj : j ≤ k.bits) (hk : ∀ n : Int, 0 ≤ n → n < 2 ^ j → k.wrap n = n) (a b : Nat) (ha : a < 2 ^ j) (hb : b < 2 ^ j) :
    bits .xor k a b = ((a ^^^ b : Nat) : Int) := by
  have hp : 2 ^ j ≤ 2 ^ k.bits := Nat.pow_le_pow_right (by decide) hj
  have ha' : a % 2 ^ k.bits = a := Nat.mod_eq_of_lt (Nat.lt_of_lt_of_le ha hp)
  have hb' : b % 2 ^ k.bits = b := Nat.mod_eq_of_lt (Nat.lt_of_lt_of_le hb hp)
  simp only [bits, BitVec.ofInt_natCast, BitVec.toNat_xor, BitVec.toNat_ofNat, ha', hb']
  exact hk _ (Int.natCast_nonneg _) (by exact_mod_cast Nat.xor_lt_two_pow ha hb)
theorem wraps_i64 (n : Int) (h₀ : 0 ≤ n) (h₁ : n < 2 ^ 62) : IntKind.i64.wrap n = n := IntWalk.i64_in _ (by omega)
theorem xor8 (a b : Nat) (ha : a < 256) (hb : b < 256) : bits .xor .u8 a b = ((a ^^^ b : Nat) : Int) := xorNat .u8 8 (by decide) wraps_u8 a b ha hb
theorem xor64 (a b : Nat) (ha : a < 2 ^ 62) (hb : b < 2 ^ 62) : bits .xor .i64 a b = ((a ^^^ b : Nat) : Int) := xorNat .i64 62 (by decide) wraps_i64 a b ha hb
theorem and8_1 (x : Int) (h0 : 0 ≤ x) (h1 : x < 256) : bits .and .u8 x 1 = x % 2 := bits_mask .u8 8 (by decide) wraps_u8 1 (by decide) x h0 h1
theorem and64_1 (x : Int) (h0 : 0 ≤ x) (h1 : x < 2 ^ 62) : bits .and .i64 x 1 = x % 2 := bits_mask .i64 62 (by decide) wraps_i64 1 (by decide) x h0 h1

def dbl (c : Nat) : Nat := cond (Nat.ble 256 (c * 2)) (Nat.xor (c * 2) 283) (c * 2)
def mulGo : Nat → Nat → Nat → Nat → Nat
  | 0, _, acc, _ => acc
  | n + 1, b, acc, cur => mulGo n (b / 2) (cond (Nat.beq (b % 2) 1) (Nat.xor acc cur) acc) (dbl cur)
def mulN (a b : Nat) : Nat := mulGo 8 b 0 a
theorem dbl_lt : ∀ c < 256, dbl c < 256 := by decide +kernel
theorem dbl_eq (c : Nat) (h : c < 256) : dbl c = if 256 ≤ c * 2 then (c * 2) ^^^ 283 else c * 2 := by
  unfold dbl
  by_cases h1 : 256 ≤ c * 2
  · rw [if_pos h1, Nat.ble_eq_true_of_le h1]; rfl
  · rw [if_neg h1]
    cases h2 : Nat.ble 256 (c * 2)
    · rfl
    · exact absurd (Nat.le_of_ble_eq_true h2) h1
theorem twice_ok : ∀ c < 256, aes_twice.f (c : Nat) = some ((dbl c : Nat) : Int) := by decide +kernel
theorem mulGo_zero (n acc cur : Nat) : mulGo n 0 acc cur = acc := by
  induction n generalizing acc cur with
  | zero => rfl
  | succ n ih => exact ih _ _
theorem mulGo_step (n b acc cur : Nat) : mulGo (n + 1) b acc cur = mulGo n (b / 2) (if b % 2 = 1 then acc ^^^ cur else acc) (dbl cur) := by
  by_cases h : b % 2 = 1
  · rw [if_pos h]; show mulGo n (b / 2) (cond (Nat.beq (b % 2) 1) (Nat.xor acc cur) acc) (dbl cur) = _; rw [h]; rfl
  · rw [if_neg h]; show mulGo n (b / 2) (cond (Nat.beq (b % 2) 1) (Nat.xor acc cur) acc) (dbl cur) = _
    have h0 : b % 2 = 0 := by omega
    rw [h0]; rfl
theorem mulGo_lt (n b acc cur : Nat) (ha : acc < 256) (hc : cur < 256) : mulGo n b acc cur < 256 := by
  induction n generalizing b acc cur with
  | zero => exact ha
  | succ n ih =>
    rw [mulGo_step]
    refine ih _ _ _ ?_ (dbl_lt _ hc)
    split
    · exact Nat.xor_lt_two_pow (n := 8) ha hc
    · exact ha
theorem mulN_lt (a b : Nat) (ha : a < 256) : mulN a b < 256 := mulGo_lt _ _ _ _ (by decide) ha

theorem times_l0_go (m : Nat) (n : Nat) : ∀ (b x y : Nat), x < 256 → y < 256 → b < 2 ^ n → aes_times.l0 (n + 1 + m) x b y = some ((mulGo n b y x : Nat) : Int) := by
  induction n with
  | zero =>
    intro b x y hx hy hb
    have hb : b = 0 := by omega
    subst hb
    rw [show 0 + 1 + m = m + 1 from by omega]
    simp [aes_times.l0, mulGo]
  | succ n ih =>
    intro b x y hx hy hb
    rw [show n + 1 + 1 + m = (n + 1 + m) + 1 from by omega]
    by_cases h0 : b = 0
    · subst h0
      rw [mulGo_zero]
      simp [aes_times.l0]
    · rw [aes_times.l0, if_pos (by omega), twice_ok x hx, mulGo_step]
      simp only [Option.bind_some]
      have hb8 : ∀ k : Int, k = 0 ∨ k = 1 → (((x : Int)) * k) % 256 = if k = 1 then (x : Int) else 0 := by
        rintro k (rfl | rfl)
        · simp
        · simp; omega
      have e1 : ((b : Int) / 2) = ((b / 2 : Nat) : Int) := by omega
      rw [e1]
      have hd := dbl_lt x hx
      have e2 : Go.bits .xor .u8 (y : Int) (((x : Int) * (Go.bits .and .u8 (b : Int) 1)) % 256) = ((if b % 2 = 1 then y ^^^ x else y : Nat) : Int) := by
        have ha : Go.bits .and .u8 (b : Int) 1 = (b : Int) % 2 := by
          have h1 : (b : Int) % 256 = ((b % 256 : Nat) : Int) := by omega
          have h2 : Go.bits .and .u8 (b : Int) 1 = Go.bits .and .u8 ((b % 256 : Nat) : Int) 1 := by
            simp only [bits]
            congr 2
            have : BitVec.ofInt IntKind.u8.bits (b : Int) = BitVec.ofInt IntKind.u8.bits ((b % 256 : Nat) : Int) := by
              rw [BitVec.ofInt_natCast, BitVec.ofInt_natCast]
              apply BitVec.eq_of_toNat_eq
              simp [IntKind.bits]
            rw [this]
          rw [h2, and8_1 _ (by omega) (by omega)]
          omega
        rw [ha]
        by_cases h1 : b % 2 = 1
        · rw [if_pos h1, show (b : Int) % 2 = 1 from by omega, Int.mul_one, show (x : Int) % 256 = (x : Int) from by omega, xor8 _ _ hy hx]
        · rw [if_neg h1, show (b : Int) % 2 = 0 from by omega, Int.mul_zero]
          have := xor8 y 0 hy (by decide)
          simpa using this
      rw [e2]
      refine ih (b / 2) (dbl x) _ hd ?_ (by rw [Nat.pow_succ] at hb; omega)
      split
      · exact Nat.xor_lt_two_pow (n := 8) hy hx
      · exact hy
theorem times_go (m a b : Nat) (ha : a < 256) (hb : b < 256) : aes_times.f (9 + m) a b = some ((mulN a b : Nat) : Int) := times_l0_go m 8 b a 0 ha (by decide) hb
theorem tm_go (a b : Nat) (ha : a < 256) (hb : b < 256) : tm a b = ((mulN a b : Nat) : Int) := by
  unfold tm
  have := times_go 0 a b ha hb
  rw [this]; rfl

theorem refTimes_l0 (m b : Nat) (hb : b < 256) (n : Nat) : ∀ (i acc cur : Nat), i + n = 8 → acc < 256 → cur < 256 →
    charterref03_Times.l0 (n + 1 + m) b acc cur i = some ((mulGo n (b / 2 ^ i) acc cur : Nat) : Int) := by
  induction n with
  | zero =>
    intro i acc cur hi ha hc
    rw [show 0 + 1 + m = m + 1 from by omega, charterref03_Times.l0, if_neg (by omega)]
    simp only [mulGo]
    congr 1
    omega
  | succ n ih =>
    intro i acc cur hi ha hc
    rw [show n + 1 + 1 + m = (n + 1 + m) + 1 from by omega, charterref03_Times.l0, if_pos (by omega), if_pos (by omega), mulGo_step]
    have w1 : wrap64 ((b : Nat) : Int) = (b : Int) := IntWalk.wrap64_in _ (by omega)
    have w2 : wrap64 ((cur : Int) * 2) = ((cur * 2 : Nat) : Int) := by rw [show ((cur * 2 : Nat) : Int) = (cur : Int) * 2 from by omega]; exact IntWalk.wrap64_in _ (by omega)
    have w3 : wrap64 ((i : Int) + 1) = ((i + 1 : Nat) : Int) := by rw [show ((i + 1 : Nat) : Int) = (i : Int) + 1 from by omega]; exact IntWalk.wrap64_in _ (by omega)
    have sh : shr .i64 ((b : Nat) : Int) (i : Int) = ((b / 2 ^ i : Nat) : Int) := by
      unfold shr
      rw [show min ((i : Int).toNat) IntKind.i64.bits = i from by simp [IntKind.bits]; omega]
      simp
    have hbd : b / 2 ^ i < 256 := Nat.lt_of_le_of_lt (Nat.div_le_self _ _) hb
    have hbd2 : b / 2 ^ (i + 1) = b / 2 ^ i / 2 := by rw [Nat.pow_succ, Nat.div_div_eq_div_mul]
    rw [w1, w2, w3, sh]
    generalize b / 2 ^ i = q at hbd hbd2 ⊢
    rw [and64_1 _ (by omega) (by omega)]
    have x1 := xor64 acc cur (by omega) (by omega)
    have x2 : bits .xor .i64 ((cur * 2 : Nat) : Int) 283 = ((cur * 2 ^^^ 283 : Nat) : Int) := xor64 (cur * 2) 283 (by omega) (by omega)
    rw [x1, x2]
    have hx : acc ^^^ cur < 256 := Nat.xor_lt_two_pow (n := 8) ha hc
    have hd := dbl_lt cur hc
    have hde := dbl_eq cur hc
    have hcond : (((q : Nat) : Int) % 2 = 1) ↔ q % 2 = 1 := by omega
    have hge : (((cur * 2 : Nat) : Int) ≥ 256) ↔ 256 ≤ cur * 2 := by omega
    simp only [hcond, hge]
    by_cases h1 : q % 2 = 1 <;> by_cases h2 : 256 ≤ cur * 2 <;> simp only [h1, h2, if_true, if_false] <;> simp only [h2, if_true, if_false] at hde <;> rw [← hde] <;> rw [ih (i + 1) _ _ (by omega) (by assumption) hd, hbd2]
theorem refTimes_go (m a b : Nat) (ha : a < 256) (hb : b < 256) : charterref03_Times.f (9 + m) a b = some ((mulN a b : Nat) : Int) := by
  unfold charterref03_Times.f
  rw [show wrap64 ((a : Nat) : Int) = (a : Int) from IntWalk.wrap64_in _ (by omega)]
  have := refTimes_l0 m b hb 8 0 0 a (by omega) (by decide) ha
  simpa [mulN] using this

/-! The table and the specification's substitution. -/
def invGo (x : Nat) : Nat → Nat → Nat → Nat
  | 0, _, inv => inv
  | n + 1, c, inv => invGo x n (c + 1) (cond (Nat.beq (mulN x c) 1) c inv)
theorem refSub_l0 (m x : Nat) (hx : x < 256) (n : Nat) : ∀ (c inv : Nat), c + n = 256 →
    charterref03_Substitute.l0 (n + 1 + (9 + m)) x inv c = charterref03_Substitute.l1 (9 + m) (invGo x n c inv : Nat) 0 0 := by
  induction n with
  | zero =>
    intro c inv hc
    rw [show 0 + 1 + (9 + m) = (9 + m) + 1 from by omega, charterref03_Substitute.l0, if_neg (by omega)]
    rfl
  | succ n ih =>
    intro c inv hc
    rw [show n + 1 + 1 + (9 + m) = (n + 1 + (9 + m)) + 1 from by omega, charterref03_Substitute.l0, if_pos (by omega)]
    have e : ((c : Nat) : Int) % 256 = ((c : Nat) : Int) := by omega
    have hT := refTimes_go (n + 1 + m) x c hx (by omega)
    rw [e, show n + 1 + (9 + m) = 9 + (n + 1 + m) from by omega, hT]
    have w3 : wrap64 ((c : Int) + 1) = ((c + 1 : Nat) : Int) := by rw [show ((c + 1 : Nat) : Int) = (c : Int) + 1 from by omega]; exact IntWalk.wrap64_in _ (by omega)
    rw [w3, show 9 + (n + 1 + m) = n + 1 + (9 + m) from by omega]
    simp only [Option.bind_some]
    rw [ih (c + 1) c (by omega), ih (c + 1) inv (by omega)]
    show _ = charterref03_Substitute.l1 (9 + m) (invGo x n (c + 1) (cond (Nat.beq (mulN x c) 1) c inv) : Nat) 0 0
    by_cases h1 : mulN x c = 1
    · rw [if_pos (by omega), h1]; rfl
    · rw [if_neg (by omega)]
      cases h2 : Nat.beq (mulN x c) 1
      · rfl
      · exact absurd (Nat.eq_of_beq_eq_true h2) h1
/-- The table's byte at a place, as a whole number. -/
def sbN (x : Nat) : Nat := (rd aes_substitutes_L (x : Int)).toNat
set_option maxRecDepth 100000 in
theorem sbN_ok : ∀ x < 256, rd aes_substitutes_L ((x : Nat) : Int) = ((sbN x : Nat) : Int) ∧ sbN x < 256 := by decide +kernel
set_option maxRecDepth 100000 in
theorem affine_ok : ∀ x < 256, charterref03_Substitute.l1 60 (invGo x 255 1 0 : Nat) 0 0 = some ((sbN x : Nat) : Int) := by decide +kernel
theorem refSub_go (m x : Nat) (hx : x < 256) : charterref03_Substitute.f (316 + m) x = some ((sbN x : Nat) : Int) := by
  have h : charterref03_Substitute.f 316 x = some ((sbN x : Nat) : Int) := by
    have h1 := refSub_l0 51 x hx 255 1 0 (by decide)
    rw [affine_ok x hx] at h1
    exact h1
  exact at_rounds (g := fun k => charterref03_Substitute.f k x) (fun k => charterref03_Substitute.mono _ k) (show 316 ≤ 316 + m by omega) h
theorem sub_go (x : Nat) (hx : x < 256) : aes_Substitute.f x = some ((sbN x : Nat) : Int) := by
  unfold aes_Substitute.f aes_substitutes.f
  simp only [Option.bind_some]
  rw [if_pos (by omega), if_pos (by omega), (sbN_ok x hx).1]
/-- The table back, as whole numbers. -/
def orN (x : Nat) : Nat := (rd aes_origins_L (x : Int)).toNat
set_option maxRecDepth 100000 in
theorem orN_ok : ∀ x < 256, rd aes_origins_L ((x : Nat) : Int) = ((orN x : Nat) : Int) ∧ orN x < 256 := by decide +kernel
set_option maxRecDepth 100000 in
theorem orN_sbN : ∀ x < 256, orN (sbN x) = x ∧ sbN (orN x) = x := by decide +kernel
end Go.Proofs.Ytpcdkfbngoagnaa.Pure
