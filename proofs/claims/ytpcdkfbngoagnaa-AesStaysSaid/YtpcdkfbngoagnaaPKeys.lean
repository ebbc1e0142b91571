import Derived.Test.YtpcdkfbngoagnaaPTab
import Derived.Test.YtpcdkfbngoagnaaCx14
namespace Go.Proofs.Ytpcdkfbngoagnaa.Pure
set_option linter.unusedVariables false
open Go.RowKit Go.Proofs.Ytpcdkfbngoagnaa.C Go.Proofs.YtpcdkfbngoagnaaW.PrintWords Go.Proofs.YtpcdkfbngoagnaaW.PrintLast

/-- The table's byte at a byte. -/
def S (a : Int) : Int := rd aes_substitutes_L a
/-- The key of the next round. -/
def nkA (c a0 a1 a2 a3 a4 a5 a6 a7 a8 a9 a10 a11 a12 a13 a14 a15 : Int) : List Int :=
  let n0 := Go.bits .xor .u8 a0 (Go.bits .xor .u8 (S a13) c)
  let n1 := Go.bits .xor .u8 a1 (S a14)
  let n2 := Go.bits .xor .u8 a2 (S a15)
  let n3 := Go.bits .xor .u8 a3 (S a12)
  let n4 := Go.bits .xor .u8 a4 n0
  let n5 := Go.bits .xor .u8 a5 n1
  let n6 := Go.bits .xor .u8 a6 n2
  let n7 := Go.bits .xor .u8 a7 n3
  let n8 := Go.bits .xor .u8 a8 n4
  let n9 := Go.bits .xor .u8 a9 n5
  let n10 := Go.bits .xor .u8 a10 n6
  let n11 := Go.bits .xor .u8 a11 n7
  let n12 := Go.bits .xor .u8 a12 n8
  let n13 := Go.bits .xor .u8 a13 n9
  let n14 := Go.bits .xor .u8 a14 n10
  let n15 := Go.bits .xor .u8 a15 n11
  [n0, n1, n2, n3, n4, n5, n6, n7, n8, n9, n10, n11, n12, n13, n14, n15]
set_option maxRecDepth 100000 in
set_option maxHeartbeats 4000000 in
theorem keys_l1 (k : Nat) (xs : List (List Int)) (c i y : Int) (a0 a1 a2 a3 a4 a5 a6 a7 a8 a9 a10 a11 a12 a13 a14 a15 : Int) (h : rd_L1 xs i = [a0, a1, a2, a3, a4, a5, a6, a7, a8, a9, a10, a11, a12, a13, a14, a15]) (hi : 0 ≤ i) (hl : i < (xs.length : Int))
    (b12 : 0 ≤ a12) (d12 : a12 < 256) (b13 : 0 ≤ a13) (d13 : a13 < 256) (b14 : 0 ≤ a14) (d14 : a14 < 256) (b15 : 0 ≤ a15) (d15 : a15 < 256) :
    aes_Keys.l1 (k + 16) xs c i [a0, a1, a2, a3, a4, a5, a6, a7, a8, a9, a10, a11, a12, a13, a14, a15] y 16 0 = aes_Keys.l1 k xs c i (nkA c a0 a1 a2 a3 a4 a5 a6 a7 a8 a9 a10 a11 a12 a13 a14 a15) y 16 16 := by
  simp [aes_Keys.l1, h, rd, wrap64, aes_substitutes.f, hi, hl, b12, d12, b13, d13, b14, d14, b15, d15, nkA, S]
theorem refTimes_2 (m c : Nat) (hc : c < 256) : charterref03_Times.f (9 + m) c 2 = some ((dbl c : Nat) : Int) := by
  have h := refTimes_go m c 2 hc (by decide)
  have h2 : ∀ c < 256, mulN c 2 = dbl c := by decide +kernel
  rw [h2 c hc] at h
  exact h
set_option maxRecDepth 100000 in
set_option maxHeartbeats 4000000 in
theorem refKeys_l1 (k : Nat) (xs : List (List Int)) (c i : Int) (a0 a1 a2 a3 a4 a5 a6 a7 a8 a9 a10 a11 a12 a13 a14 a15 : Int)
    (b12 : 0 ≤ a12) (d12 : a12 < 256) (b13 : 0 ≤ a13) (d13 : a13 < 256) (b14 : 0 ≤ a14) (d14 : a14 < 256) (b15 : 0 ≤ a15) (d15 : a15 < 256) :
    charterref03_Keys.l1 (k + 18) aes_substitutes_L xs c i [a0, a1, a2, a3, a4, a5, a6, a7, a8, a9, a10, a11, a12, a13, a14, a15] [] 0 = charterref03_Keys.l2 (k + 1) aes_substitutes_L xs c i [a0, a1, a2, a3, a4, a5, a6, a7, a8, a9, a10, a11, a12, a13, a14, a15] (nkA c a0 a1 a2 a3 a4 a5 a6 a7 a8 a9 a10 a11 a12 a13 a14 a15) 16 := by
  have hT : aes_substitutes_L.length = 256 := by decide +kernel
  simp [charterref03_Keys.l1, charterref03_Keys.l2, rd, wrap64, hT, b12, d12, b13, d13, b14, d14, b15, d15, nkA, S]
theorem xor_byte (a b : Int) : 0 ≤ Go.bits .xor .u8 a b ∧ Go.bits .xor .u8 a b < 256 := by
  simp only [bits, IntKind.wrap_u8]
  omega
def By16 (l : List Int) : Prop := l.length = 16 ∧ ∀ x ∈ l, 0 ≤ x ∧ x < 256
theorem len16 (l : List Int) (h : l.length = 16) : ∃ a0 a1 a2 a3 a4 a5 a6 a7 a8 a9 a10 a11 a12 a13 a14 a15 : Int, l = [a0, a1, a2, a3, a4, a5, a6, a7, a8, a9, a10, a11, a12, a13, a14, a15] := by
  match l, h with
  | [a0, a1, a2, a3, a4, a5, a6, a7, a8, a9, a10, a11, a12, a13, a14, a15], _ => exact ⟨a0, a1, a2, a3, a4, a5, a6, a7, a8, a9, a10, a11, a12, a13, a14, a15, rfl⟩
/-- The key of the next round, of a key as a list. -/
def nk (c : Int) (p : List Int) : List Int := nkA c (p.getD 0 0) (p.getD 1 0) (p.getD 2 0) (p.getD 3 0) (p.getD 4 0) (p.getD 5 0) (p.getD 6 0) (p.getD 7 0) (p.getD 8 0) (p.getD 9 0) (p.getD 10 0) (p.getD 11 0) (p.getD 12 0) (p.getD 13 0) (p.getD 14 0) (p.getD 15 0)
theorem nk_by (c : Int) (p : List Int) : By16 (nk c p) := by
  refine ⟨rfl, ?_⟩
  intro x hx
  simp only [nk, nkA, List.mem_cons, List.not_mem_nil, or_false] at hx
  rcases hx with rfl | rfl | rfl | rfl | rfl | rfl | rfl | rfl | rfl | rfl | rfl | rfl | rfl | rfl | rfl | rfl <;> exact xor_byte _ _
def kgo : Nat → List (List Int) → List Int → Nat → List (List Int)
  | 0, xs, _, _ => xs
  | n + 1, xs, p, c => kgo n (xs ++ [nk c p]) (nk c p) (dbl c)
theorem kgo_length (n : Nat) : ∀ xs p c, (kgo n xs p c).length = xs.length + n := by
  induction n with
  | zero => intro xs p c; rfl
  | succ n ih => intro xs p c; rw [kgo, ih]; simp; omega
theorem kgo_by (n : Nat) : ∀ xs p c, (∀ x ∈ xs, By16 x) → ∀ x ∈ kgo n xs p c, By16 x := by
  induction n with
  | zero => intro xs p c h x hx; exact h x hx
  | succ n ih =>
    intro xs p c h
    refine ih _ _ _ ?_
    intro x hx
    rcases List.mem_append.mp hx with hx | hx
    · exact h x hx
    · simp only [List.mem_singleton] at hx; subst hx; exact nk_by _ _
theorem rd_last (xs : List (List Int)) (q : List Int) (i : Nat) (h : xs.length = i + 1) : rd_L1 (xs ++ [q]) ((i + 1 : Nat) : Int) = q := by
  unfold rd_L1
  rw [show (((i + 1 : Nat) : Int)).toNat = xs.length from by omega]
  simp
theorem wrap_succ (i : Nat) (h : i < 1000) : wrap64 ((i : Int) + 1) = ((i + 1 : Nat) : Int) := by
  rw [show ((i + 1 : Nat) : Int) = (i : Int) + 1 from by omega]; exact IntWalk.wrap64_in _ (by omega)
theorem clone_ok (l : List Int) (h : l.length = 16) : slices_Clone_byte_byte.f l = some l := by
  unfold slices_Clone_byte_byte.f
  rw [if_pos (by omega)]
theorem aesKeys_l0 (m : Nat) (n : Nat) : ∀ (xs : List (List Int)) (p : List Int) (c i : Nat), xs.length = i + 1 → i + n = 10 → By16 p → rd_L1 xs i = p → c < 256 →
    aes_Keys.l0 (m + 1 + 18 * n) xs c i = some (kgo n xs p c, none) := by
  induction n with
  | zero =>
    intro xs p c i hl hi hp hr hc
    rw [show m + 1 + 18 * 0 = m + 1 from rfl, aes_Keys.l0, if_neg (by omega)]
    rfl
  | succ n ih =>
    intro xs p c i hl hi hp hr hc
    rw [show m + 1 + 18 * (n + 1) = ((m + 1 + 18 * n) + 1 + 16) + 1 from by omega, aes_Keys.l0, if_pos (by omega), if_pos (by omega), if_pos (by omega), hr, clone_ok p hp.1]
    simp only [Option.bind_some]
    have hd := dbl_lt c hc
    have ih' := ih (xs ++ [nk c p]) (nk c p) (dbl c) (i + 1) (by simp; omega) (by omega) (nk_by _ _) (rd_last xs _ i hl) hd
    obtain ⟨a0, a1, a2, a3, a4, a5, a6, a7, a8, a9, a10, a11, a12, a13, a14, a15, rfl⟩ := len16 p hp.1
    have hb := hp.2
    rw [show ((([a0, a1, a2, a3, a4, a5, a6, a7, a8, a9, a10, a11, a12, a13, a14, a15] : List Int).length : Nat) : Int) = 16 from rfl]
    rw [keys_l1 _ xs c i i a0 a1 a2 a3 a4 a5 a6 a7 a8 a9 a10 a11 a12 a13 a14 a15 hr (by omega) (by omega) (hb a12 (by simp)).1 (hb a12 (by simp)).2 (hb a13 (by simp)).1 (hb a13 (by simp)).2 (hb a14 (by simp)).1 (hb a14 (by simp)).2 (hb a15 (by simp)).1 (hb a15 (by simp)).2]
    rw [aes_Keys.l1, if_neg (by decide), if_pos (by omega), twice_ok c hc, wrap_succ i (by omega)]
    exact ih'
theorem aesKeys_ok (m : Nat) (l : List Int) (h : By16 l) : aes_Keys.f (m + 181) l = some (kgo 10 [l] l 1, none) := by
  unfold aes_Keys.f
  rw [if_pos (by have := h.1; omega), clone_ok l h.1, show m + 181 = m + 1 + 18 * 10 from by omega]
  have h1 := aesKeys_l0 m 10 [l] l 1 0 rfl rfl h rfl (by decide)
  rw [show ((1 : Nat) : Int) = 1 from rfl, show ((0 : Nat) : Int) = 0 from rfl] at h1
  simp only [Option.bind_some]
  exact h1
theorem refKeys_l0 (m : Nat) (n : Nat) : ∀ (xs : List (List Int)) (p : List Int) (c i : Nat), xs.length = i + 1 → i + n = 10 → By16 p → rd_L1 xs i = p → c < 256 →
    charterref03_Keys.l0 (9 + m + 19 * n) aes_substitutes_L xs c i = some (kgo n xs p c) := by
  induction n with
  | zero =>
    intro xs p c i hl hi hp hr hc
    rw [show 9 + m + 19 * 0 = (8 + m) + 1 from by omega, charterref03_Keys.l0, if_neg (by omega)]
    rfl
  | succ n ih =>
    intro xs p c i hl hi hp hr hc
    rw [show 9 + m + 19 * (n + 1) = ((9 + m + 19 * n) + 18) + 1 from by omega, charterref03_Keys.l0, if_pos (by omega), if_pos (by omega), if_pos (by omega), hr]
    have hd := dbl_lt c hc
    have ih' := ih (xs ++ [nk c p]) (nk c p) (dbl c) (i + 1) (by simp; omega) (by omega) (nk_by _ _) (rd_last xs _ i hl) hd
    obtain ⟨a0, a1, a2, a3, a4, a5, a6, a7, a8, a9, a10, a11, a12, a13, a14, a15, rfl⟩ := len16 p hp.1
    have hb := hp.2
    rw [refKeys_l1 _ xs c i a0 a1 a2 a3 a4 a5 a6 a7 a8 a9 a10 a11 a12 a13 a14 a15 (hb a12 (by simp)).1 (hb a12 (by simp)).2 (hb a13 (by simp)).1 (hb a13 (by simp)).2 (hb a14 (by simp)).1 (hb a14 (by simp)).2 (hb a15 (by simp)).1 (hb a15 (by simp)).2]
    have hT := refTimes_2 (m + 19 * n) c hc
    rw [charterref03_Keys.l2, if_neg (by decide), if_pos (by omega), show 9 + m + 19 * n = 9 + (m + 19 * n) from by omega, hT, wrap_succ i (by omega)]
    rw [show 9 + m + 19 * n = 9 + (m + 19 * n) from by omega] at ih'
    exact ih'
theorem refKeys_ok (m : Nat) (l : List Int) (h : By16 l) : charterref03_Keys.f (9 + m + 190) aes_substitutes_L l = some (kgo 10 [l] l 1) := by
  unfold charterref03_Keys.f
  simp only [Option.bind_some, List.nil_append, List.length_nil]
  rw [if_pos (by have := h.1; omega), show 9 + m + 190 = 9 + m + 19 * 10 from by omega]
  have h1 := refKeys_l0 m 10 [l] l 1 0 rfl rfl h rfl (by decide)
  rw [show ((1 : Nat) : Int) = 1 from rfl, show ((0 : Nat) : Int) = 0 from rfl] at h1
  exact h1
theorem table_l0 (m : Nat) (n : Nat) : ∀ i : Nat, i + n = 256 →
    charterref03_Table.l0 (n + 1 + (316 + m)) ((List.range i).map (fun j => ((sbN j : Nat) : Int))) i = some ((List.range 256).map (fun j => ((sbN j : Nat) : Int))) := by
  induction n with
  | zero =>
    intro i hi
    obtain rfl : i = 256 := by omega
    rw [show 0 + 1 + (316 + m) = (316 + m) + 1 from by omega, charterref03_Table.l0, if_neg (by decide)]
  | succ n ih =>
    intro i hi
    rw [show n + 1 + 1 + (316 + m) = (n + 1 + (316 + m)) + 1 from by omega, charterref03_Table.l0, if_pos (by omega), show ((i : Nat) : Int) % 256 = ((i : Nat) : Int) from by omega]
    have hs := refSub_go (m + n + 1) i (by omega)
    rw [show 316 + (m + n + 1) = n + 1 + (316 + m) from by omega] at hs
    rw [hs]
    simp only [Option.bind_some]
    rw [if_pos (by simp; omega), wrap_succ i (by omega)]
    have := ih (i + 1) (by omega)
    rw [List.range_succ, List.map_append, List.map_singleton] at this
    exact this
set_option maxRecDepth 100000 in
theorem table_is : (List.range 256).map (fun j => ((sbN j : Nat) : Int)) = aes_substitutes_L := by decide +kernel
theorem table_ok (m : Nat) : charterref03_Table.f (573 + m) = some aes_substitutes_L := by
  have h := table_l0 m 256 0 rfl
  rw [table_is, show ((0 : Nat) : Int) = 0 from rfl, show (List.range 0).map (fun j => ((sbN j : Nat) : Int)) = [] from rfl] at h
  unfold charterref03_Table.f
  rw [show 573 + m = 256 + 1 + (316 + m) from by omega]
  exact h
theorem by16_of (l : List Int) (h : l.length = 16) (hw : ∀ x ∈ l, (Lit.int .u8 x).wf = true) : By16 l := by
  refine ⟨h, fun x hx => ?_⟩
  have h : IntKind.u8.min ≤ x ∧ x ≤ IntKind.u8.max := by simpa [Lit.wf] using hw x hx
  have e1 : IntKind.u8.min = 0 := by decide +kernel
  have e2 : IntKind.u8.max = 255 := by decide +kernel
  omega
end Go.Proofs.Ytpcdkfbngoagnaa.Pure
