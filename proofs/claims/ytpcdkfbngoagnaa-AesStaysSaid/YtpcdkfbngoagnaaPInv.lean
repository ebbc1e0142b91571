import Derived.Test.YtpcdkfbngoagnaaPEnc
import Derived.Test.YtpcdkfbngoagnaaCx18
namespace Go.Proofs.Ytpcdkfbngoagnaa.Pure
set_option linter.unusedVariables false
set_option linter.unusedSimpArgs false
open Go.RowKit Go.Proofs.Ytpcdkfbngoagnaa.C Go.Proofs.YtpcdkfbngoagnaaW.PrintWords Go.Proofs.YtpcdkfbngoagnaaW.PrintLast Go.Proofs.YtpcdkfbngoagnaaW.PrintMore

set_option maxRecDepth 100000 in
theorem dbl_xor : ∀ x < 256, ∀ y < 256, dbl (x ^^^ y) = dbl x ^^^ dbl y := by decide +kernel
theorem xor_lt {x y : Nat} (hx : x < 256) (hy : y < 256) : x ^^^ y < 256 := Nat.xor_lt_two_pow (n := 8) hx hy
theorem mulGo_xor (n : Nat) : ∀ (b a1 a2 c1 c2 : Nat), c1 < 256 → c2 < 256 → mulGo n b (a1 ^^^ a2) (c1 ^^^ c2) = mulGo n b a1 c1 ^^^ mulGo n b a2 c2 := by
  induction n with
  | zero => intro b a1 a2 c1 c2 _ _; rfl
  | succ n ih =>
    intro b a1 a2 c1 c2 h1 h2
    rw [mulGo_step, mulGo_step, mulGo_step, dbl_xor c1 h1 c2 h2]
    by_cases hb : b % 2 = 1
    · rw [if_pos hb, if_pos hb, if_pos hb, ← ih _ _ _ _ _ (dbl_lt _ h1) (dbl_lt _ h2)]
      congr 1
      ac_rfl
    · rw [if_neg hb, if_neg hb, if_neg hb, ← ih _ _ _ _ _ (dbl_lt _ h1) (dbl_lt _ h2)]
theorem mulN_xor (x y b : Nat) (hx : x < 256) (hy : y < 256) : mulN (x ^^^ y) b = mulN x b ^^^ mulN y b := by
  unfold mulN
  rw [← mulGo_xor 8 b 0 0 x y hx hy]
  rfl
def col (b0 b1 b2 b3 x0 x1 x2 x3 : Nat) : Nat := mulN x0 b0 ^^^ mulN x1 b1 ^^^ mulN x2 b2 ^^^ mulN x3 b3
theorem col_lt (b0 b1 b2 b3 x0 x1 x2 x3 : Nat) (h0 : x0 < 256) (h1 : x1 < 256) (h2 : x2 < 256) (h3 : x3 < 256) : col b0 b1 b2 b3 x0 x1 x2 x3 < 256 :=
  xor_lt (xor_lt (xor_lt (mulN_lt _ _ h0) (mulN_lt _ _ h1)) (mulN_lt _ _ h2)) (mulN_lt _ _ h3)
theorem mulN_col (b b0 b1 b2 b3 x0 x1 x2 x3 : Nat) (h0 : x0 < 256) (h1 : x1 < 256) (h2 : x2 < 256) (h3 : x3 < 256) :
    mulN (col b0 b1 b2 b3 x0 x1 x2 x3) b = mulN (mulN x0 b0) b ^^^ mulN (mulN x1 b1) b ^^^ mulN (mulN x2 b2) b ^^^ mulN (mulN x3 b3) b := by
  have l0 := mulN_lt x0 b0 h0
  have l1 := mulN_lt x1 b1 h1
  have l2 := mulN_lt x2 b2 h2
  have l3 := mulN_lt x3 b3 h3
  unfold col
  rw [mulN_xor _ _ b (xor_lt (xor_lt l0 l1) l2) l3, mulN_xor _ _ b (xor_lt l0 l1) l2, mulN_xor _ _ b l0 l1]
set_option maxRecDepth 100000 in
theorem nm_ok : ∀ x < 256,
    (mulN (mulN x 2) 14 ^^^ mulN (mulN x 1) 11 ^^^ mulN (mulN x 1) 13 ^^^ mulN (mulN x 3) 9 = x) ∧
    (mulN (mulN x 3) 14 ^^^ mulN (mulN x 2) 11 ^^^ mulN (mulN x 1) 13 ^^^ mulN (mulN x 1) 9 = 0) ∧
    (mulN (mulN x 1) 14 ^^^ mulN (mulN x 3) 11 ^^^ mulN (mulN x 2) 13 ^^^ mulN (mulN x 1) 9 = 0) ∧
    (mulN (mulN x 1) 14 ^^^ mulN (mulN x 1) 11 ^^^ mulN (mulN x 3) 13 ^^^ mulN (mulN x 2) 9 = 0) := by decide +kernel
set_option maxRecDepth 100000 in
theorem mn_ok : ∀ x < 256,
    (mulN (mulN x 14) 2 ^^^ mulN (mulN x 9) 3 ^^^ mulN (mulN x 13) 1 ^^^ mulN (mulN x 11) 1 = x) ∧
    (mulN (mulN x 11) 2 ^^^ mulN (mulN x 14) 3 ^^^ mulN (mulN x 9) 1 ^^^ mulN (mulN x 13) 1 = 0) ∧
    (mulN (mulN x 13) 2 ^^^ mulN (mulN x 11) 3 ^^^ mulN (mulN x 14) 1 ^^^ mulN (mulN x 9) 1 = 0) ∧
    (mulN (mulN x 9) 2 ^^^ mulN (mulN x 13) 3 ^^^ mulN (mulN x 11) 1 ^^^ mulN (mulN x 14) 1 = 0) := by decide +kernel
theorem col_NM (a b c d : Nat) (ha : a < 256) (hb : b < 256) (hc : c < 256) (hd : d < 256) :
    col 14 11 13 9 (col 2 3 1 1 a b c d) (col 2 3 1 1 b c d a) (col 2 3 1 1 c d a b) (col 2 3 1 1 d a b c) = a := by
  show mulN (col 2 3 1 1 a b c d) 14 ^^^ mulN (col 2 3 1 1 b c d a) 11 ^^^ mulN (col 2 3 1 1 c d a b) 13 ^^^ mulN (col 2 3 1 1 d a b c) 9 = a
  rw [mulN_col 14 2 3 1 1 a b c d ha hb hc hd, mulN_col 11 2 3 1 1 b c d a hb hc hd ha, mulN_col 13 2 3 1 1 c d a b hc hd ha hb, mulN_col 9 2 3 1 1 d a b c hd ha hb hc]
  have e1 := (nm_ok a ha).1
  have e2 := (nm_ok b hb).2.1
  have e3 := (nm_ok c hc).2.2.1
  have e4 := (nm_ok d hd).2.2.2
  refine Eq.trans (b := (mulN (mulN a 2) 14 ^^^ mulN (mulN a 1) 11 ^^^ mulN (mulN a 1) 13 ^^^ mulN (mulN a 3) 9) ^^^ (mulN (mulN b 3) 14 ^^^ mulN (mulN b 2) 11 ^^^ mulN (mulN b 1) 13 ^^^ mulN (mulN b 1) 9) ^^^ (mulN (mulN c 1) 14 ^^^ mulN (mulN c 3) 11 ^^^ mulN (mulN c 2) 13 ^^^ mulN (mulN c 1) 9) ^^^ (mulN (mulN d 1) 14 ^^^ mulN (mulN d 1) 11 ^^^ mulN (mulN d 3) 13 ^^^ mulN (mulN d 2) 9)) (by ac_rfl) ?_
  rw [e1, e2, e3, e4]
  simp
theorem col_MN (a b c d : Nat) (ha : a < 256) (hb : b < 256) (hc : c < 256) (hd : d < 256) :
    col 2 3 1 1 (col 14 11 13 9 a b c d) (col 14 11 13 9 b c d a) (col 14 11 13 9 c d a b) (col 14 11 13 9 d a b c) = a := by
  show mulN (col 14 11 13 9 a b c d) 2 ^^^ mulN (col 14 11 13 9 b c d a) 3 ^^^ mulN (col 14 11 13 9 c d a b) 1 ^^^ mulN (col 14 11 13 9 d a b c) 1 = a
  rw [mulN_col 2 14 11 13 9 a b c d ha hb hc hd, mulN_col 3 14 11 13 9 b c d a hb hc hd ha, mulN_col 1 14 11 13 9 c d a b hc hd ha hb, mulN_col 1 14 11 13 9 d a b c hd ha hb hc]
  have e1 := (mn_ok a ha).1
  have e2 := (mn_ok b hb).2.1
  have e3 := (mn_ok c hc).2.2.1
  have e4 := (mn_ok d hd).2.2.2
  refine Eq.trans (b := (mulN (mulN a 14) 2 ^^^ mulN (mulN a 9) 3 ^^^ mulN (mulN a 13) 1 ^^^ mulN (mulN a 11) 1) ^^^ (mulN (mulN b 11) 2 ^^^ mulN (mulN b 14) 3 ^^^ mulN (mulN b 9) 1 ^^^ mulN (mulN b 13) 1) ^^^ (mulN (mulN c 13) 2 ^^^ mulN (mulN c 11) 3 ^^^ mulN (mulN c 14) 1 ^^^ mulN (mulN c 9) 1) ^^^ (mulN (mulN d 9) 2 ^^^ mulN (mulN d 13) 3 ^^^ mulN (mulN d 11) 1 ^^^ mulN (mulN d 14) 1)) (by ac_rfl) ?_
  rw [e1, e2, e3, e4]
  simp
theorem getD_by (s : List Int) (h : By16 s) (i : Nat) : ∃ n : Nat, s.getD i 0 = n ∧ n < 256 := by
  by_cases hi : i < s.length
  · rw [List.getD_eq_getElem?_getD, List.getElem?_eq_getElem hi]
    have := h.2 _ (List.getElem_mem hi)
    exact byteNat _ this.1 this.2
  · rw [List.getD_eq_getElem?_getD, List.getElem?_eq_none (by omega)]
    exact ⟨0, rfl, by decide⟩
theorem ext16 (s t : List Int) (hs : s.length = 16) (ht : t.length = 16) (h : ∀ c r, c < 4 → r < 4 → s.getD (4 * c + r) 0 = t.getD (4 * c + r) 0) : s = t := by
  refine List.ext_getElem (by omega) (fun i h1 h2 => ?_)
  have h3 := h (i / 4) (i % 4) (by omega) (by omega)
  rw [show 4 * (i / 4) + i % 4 = i from by omega] at h3
  rw [List.getD_eq_getElem?_getD, List.getD_eq_getElem?_getD, List.getElem?_eq_getElem h1, List.getElem?_eq_getElem h2] at h3
  exact h3
theorem tm_nat (n b : Nat) (hn : n < 256) (hb : b < 256) : tm ((n : Nat) : Int) ((b : Nat) : Int) = ((mulN n b : Nat) : Int) := tm_go n b hn hb
/-- One place of the mixed state. -/
theorem mix_col (s : List Int) (b0 b1 b2 b3 : Nat) (h0 : b0 < 256) (h1 : b1 < 256) (h2 : b2 < 256) (h3 : b3 < 256) (c r : Nat) (hc : c < 4) (hr : r < 4) (x0 x1 x2 x3 : Nat)
    (e0 : s.getD (4 * c + r) 0 = x0) (e1 : s.getD (4 * c + (r + 1) % 4) 0 = x1) (e2 : s.getD (4 * c + (r + 2) % 4) 0 = x2) (e3 : s.getD (4 * c + (r + 3) % 4) 0 = x3)
    (l0 : x0 < 256) (l1 : x1 < 256) (l2 : x2 < 256) (l3 : x3 < 256) :
    (partL (mixF [(b0 : Int), b1, b2, b3] s) 16).getD (4 * c + r) 0 = ((col b0 b1 b2 b3 x0 x1 x2 x3 : Nat) : Int) := by
  rw [partL_get _ _ (by omega), mixF_at _ _ _ _ hr]
  simp only [accF, Nat.add_zero]
  rw [show r % 4 = r from by omega, e0, e1, e2, e3]
  simp only [List.getD_cons_zero, List.getD_cons_succ]
  rw [tm_nat x0 b0 l0 h0, tm_nat x1 b1 l1 h1, tm_nat x2 b2 l2 h2, tm_nat x3 b3 l3 h3]
  have m0 := mulN_lt x0 b0 l0
  have m1 := mulN_lt x1 b1 l1
  have m2 := mulN_lt x2 b2 l2
  have m3 := mulN_lt x3 b3 l3
  have z := xor8 0 (mulN x0 b0) (by decide) m0
  rw [Nat.zero_xor, show ((0 : Nat) : Int) = 0 from rfl] at z
  rw [z, xor8 _ _ m0 m1, xor8 _ _ (xor_lt m0 m1) m2, xor8 _ _ (xor_lt (xor_lt m0 m1) m2) m3]
  rfl
theorem mix_by (s : List Int) (h : By16 s) (b0 b1 b2 b3 : Nat) (h0 : b0 < 256) (h1 : b1 < 256) (h2 : b2 < 256) (h3 : b3 < 256) : By16 (partL (mixF [(b0 : Int), b1, b2, b3] s) 16) := by
  refine by16_mk _ (partL_length _ _) (fun i => ?_)
  by_cases hi : i < 16
  · obtain ⟨x0, e0, l0⟩ := getD_by s h (4 * (i / 4) + i % 4)
    obtain ⟨x1, e1, l1⟩ := getD_by s h (4 * (i / 4) + (i % 4 + 1) % 4)
    obtain ⟨x2, e2, l2⟩ := getD_by s h (4 * (i / 4) + (i % 4 + 2) % 4)
    obtain ⟨x3, e3, l3⟩ := getD_by s h (4 * (i / 4) + (i % 4 + 3) % 4)
    have hm := mix_col s b0 b1 b2 b3 h0 h1 h2 h3 (i / 4) (i % 4) (by omega) (by omega) x0 x1 x2 x3 e0 e1 e2 e3 l0 l1 l2 l3
    rw [show 4 * (i / 4) + i % 4 = i from by omega] at hm
    have := col_lt b0 b1 b2 b3 x0 x1 x2 x3 l0 l1 l2 l3
    omega
  · rw [List.getD_eq_getElem?_getD, List.getElem?_eq_none (by rw [partL_length]; omega)]
    simp
theorem mix_inv (s : List Int) (h : By16 s) (b0 b1 b2 b3 d0 d1 d2 d3 : Nat) (h0 : b0 < 256) (h1 : b1 < 256) (h2 : b2 < 256) (h3 : b3 < 256) (k0 : d0 < 256) (k1 : d1 < 256) (k2 : d2 < 256) (k3 : d3 < 256)
    (hi : ∀ a b c d : Nat, a < 256 → b < 256 → c < 256 → d < 256 → col d0 d1 d2 d3 (col b0 b1 b2 b3 a b c d) (col b0 b1 b2 b3 b c d a) (col b0 b1 b2 b3 c d a b) (col b0 b1 b2 b3 d a b c) = a) :
    partL (mixF [(d0 : Int), d1, d2, d3] (partL (mixF [(b0 : Int), b1, b2, b3] s) 16)) 16 = s := by
  refine ext16 _ _ (partL_length _ _) h.1 (fun c r hc hr => ?_)
  obtain ⟨x0, e0, l0⟩ := getD_by s h (4 * c + r)
  obtain ⟨x1, e1, l1⟩ := getD_by s h (4 * c + (r + 1) % 4)
  obtain ⟨x2, e2, l2⟩ := getD_by s h (4 * c + (r + 2) % 4)
  obtain ⟨x3, e3, l3⟩ := getD_by s h (4 * c + (r + 3) % 4)
  have m0 := mix_col s b0 b1 b2 b3 h0 h1 h2 h3 c r hc hr x0 x1 x2 x3 e0 e1 e2 e3 l0 l1 l2 l3
  have m1 := mix_col s b0 b1 b2 b3 h0 h1 h2 h3 c ((r + 1) % 4) hc (by omega) x1 x2 x3 x0 e1 (by rw [show ((r + 1) % 4 + 1) % 4 = (r + 2) % 4 from by omega]; exact e2) (by rw [show ((r + 1) % 4 + 2) % 4 = (r + 3) % 4 from by omega]; exact e3) (by rw [show ((r + 1) % 4 + 3) % 4 = r from by omega]; exact e0) l1 l2 l3 l0
  have m2 := mix_col s b0 b1 b2 b3 h0 h1 h2 h3 c ((r + 2) % 4) hc (by omega) x2 x3 x0 x1 e2 (by rw [show ((r + 2) % 4 + 1) % 4 = (r + 3) % 4 from by omega]; exact e3) (by rw [show ((r + 2) % 4 + 2) % 4 = r from by omega]; exact e0) (by rw [show ((r + 2) % 4 + 3) % 4 = (r + 1) % 4 from by omega]; exact e1) l2 l3 l0 l1
  have m3 := mix_col s b0 b1 b2 b3 h0 h1 h2 h3 c ((r + 3) % 4) hc (by omega) x3 x0 x1 x2 e3 (by rw [show ((r + 3) % 4 + 1) % 4 = r from by omega]; exact e0) (by rw [show ((r + 3) % 4 + 2) % 4 = (r + 1) % 4 from by omega]; exact e1) (by rw [show ((r + 3) % 4 + 3) % 4 = (r + 2) % 4 from by omega]; exact e2) l3 l0 l1 l2
  rw [mix_col _ d0 d1 d2 d3 k0 k1 k2 k3 c r hc hr _ _ _ _ m0 m1 m2 m3 (col_lt _ _ _ _ _ _ _ _ l0 l1 l2 l3) (col_lt _ _ _ _ _ _ _ _ l1 l2 l3 l0) (col_lt _ _ _ _ _ _ _ _ l2 l3 l0 l1) (col_lt _ _ _ _ _ _ _ _ l3 l0 l1 l2), hi x0 x1 x2 x3 l0 l1 l2 l3, e0]
theorem NM (s : List Int) (h : By16 s) : partL (mixF [14, 11, 13, 9] (partL (mixF [2, 3, 1, 1] s) 16)) 16 = s := mix_inv s h 2 3 1 1 14 11 13 9 (by decide) (by decide) (by decide) (by decide) (by decide) (by decide) (by decide) (by decide) col_NM
theorem MN (s : List Int) (h : By16 s) : partL (mixF [2, 3, 1, 1] (partL (mixF [14, 11, 13, 9] s) 16)) 16 = s := mix_inv s h 14 11 13 9 2 3 1 1 (by decide) (by decide) (by decide) (by decide) (by decide) (by decide) (by decide) (by decide) col_MN
theorem back_by (st : List Int) (h : By16 st) : By16 (partL (turnB st) 16) := by
  refine by16_mk _ (partL_length _ _) (fun i => ?_)
  by_cases hi : i < 16
  · rw [partL_get _ _ hi]
    obtain ⟨n, e, l⟩ := getD_by st h (4 * ((i / 4 + 4 - i % 4) % 4) + i % 4)
    unfold turnB
    have := orN_ok n l
    rw [e, this.1]
    omega
  · rw [List.getD_eq_getElem?_getD, List.getElem?_eq_none (by rw [partL_length]; omega)]
    simp
theorem BT (s : List Int) (h : By16 s) : partL (turnB (partL (turnF s) 16)) 16 = s := by
  refine ext16 _ _ (partL_length _ _) h.1 (fun c r hc hr => ?_)
  rw [partL_get _ _ (by omega), turnB_at _ _ _ hr, partL_get _ _ (by omega), turnF_at _ _ _ hr]
  rw [show 4 * (((c + 4 - r) % 4 + r) % 4) + r = 4 * c + r from by omega]
  obtain ⟨n, e, l⟩ := getD_by s h (4 * c + r)
  rw [e, (sbN_ok n l).1, (orN_ok _ (sbN_ok n l).2).1, (orN_sbN n l).1]
theorem TB (s : List Int) (h : By16 s) : partL (turnF (partL (turnB s) 16)) 16 = s := by
  refine ext16 _ _ (partL_length _ _) h.1 (fun c r hc hr => ?_)
  rw [partL_get _ _ (by omega), turnF_at _ _ _ hr, partL_get _ _ (by omega), turnB_at _ _ _ hr]
  rw [show 4 * (((c + r) % 4 + 4 - r) % 4) + r = 4 * c + r from by omega]
  obtain ⟨n, e, l⟩ := getD_by s h (4 * c + r)
  rw [e, (orN_ok n l).1, (sbN_ok _ (orN_ok n l).2).1, (orN_sbN n l).2]
theorem xorS_at (s k : List Int) (hs : s.length = 16) (i : Nat) (hi : i < 16) : (xorS s k 16).getD i 0 = Go.bits .xor .u8 (s.getD i 0) (k.getD i 0) := by
  rw [List.getD_eq_getElem?_getD]
  simp [xorS, hs, hi]
theorem add_by (s k : List Int) (hs : s.length = 16) : By16 (xorS s k 16) := by16_mk _ (by rw [xorS_length, hs]) (fun i => xorS_rng hs i)
theorem AA (s k : List Int) (hs : By16 s) (hk : By16 k) : xorS (xorS s k 16) k 16 = s := by
  refine ext16 _ _ (by rw [xorS_length, xorS_length, hs.1]) hs.1 (fun c r hc hr => ?_)
  rw [xorS_at _ _ (by rw [xorS_length, hs.1]) _ (by omega), xorS_at _ _ hs.1 _ (by omega)]
  obtain ⟨n, e, l⟩ := getD_by s hs (4 * c + r)
  obtain ⟨m, e2, l2⟩ := getD_by k hk (4 * c + r)
  rw [e, e2, xor8 _ _ l l2, xor8 _ _ (xor_lt l l2) l2, Nat.xor_assoc, Nat.xor_self, Nat.xor_zero]
theorem step_back (ks : List (List Int)) (i : Nat) (s : List Int) (hs : By16 s) (hk : By16 (ks.getD i [])) : stepD ks i (stepE ks i s) = s := by
  have ht := turn_by s hs
  unfold stepD stepE midD
  by_cases h : i < 10
  · have hm : By16 (partL (mixF [2, 3, 1, 1] (partL (turnF s) 16)) 16) := mix_by _ ht 2 3 1 1 (by decide) (by decide) (by decide) (by decide)
    rw [if_pos h, if_pos h, AA _ _ hm hk, NM _ ht, BT s hs]
  · rw [if_neg h, if_neg h, AA _ _ ht hk, BT s hs]
theorem stepD_by (ks : List (List Int)) (i : Nat) (s : List Int) (hs : By16 s) : By16 (stepD ks i s) := by
  unfold stepD midD
  refine back_by _ ?_
  split
  · exact mix_by _ (add_by _ _ hs.1) 14 11 13 9 (by decide) (by decide) (by decide) (by decide)
  · exact add_by _ _ hs.1
theorem step_forth (ks : List (List Int)) (i : Nat) (s : List Int) (hs : By16 s) (hk : By16 (ks.getD i [])) : stepE ks i (stepD ks i s) = s := by
  have ha := add_by s (ks.getD i []) hs.1
  unfold stepD stepE midD
  by_cases h : i < 10
  · have hm : By16 (partL (mixF [14, 11, 13, 9] (xorS s (ks.getD i []) 16)) 16) := mix_by _ ha 14 11 13 9 (by decide) (by decide) (by decide) (by decide)
    rw [if_pos h, if_pos h, TB _ hm, MN _ ha, AA _ _ hs hk]
  · rw [if_neg h, if_neg h, TB _ ha, AA _ _ hs hk]
theorem decR_by (ks : List (List Int)) (s : List Int) (hs : By16 s) (n : Nat) : By16 (decR ks s n) := by
  induction n with
  | zero => exact hs
  | succ n ih => exact stepD_by _ _ _ ih
theorem dec_enc_R (ks : List (List Int)) (s : List Int) (hs : By16 s) (hk : ∀ i, i < 11 → By16 (ks.getD i [])) (n : Nat) : n ≤ 10 → decR ks (encR ks s 10) n = encR ks s (10 - n) := by
  induction n with
  | zero => intro _; rfl
  | succ n ih =>
    intro h
    rw [decR, ih (by omega), show 10 - n = (10 - (n + 1)) + 1 from by omega, encR]
    exact step_back ks _ _ (encR_by ks s hs _) (hk _ (by omega))
theorem dec_enc (ks : List (List Int)) (s : List Int) (hs : By16 s) (hk : ∀ i, i < 11 → By16 (ks.getD i [])) : decL ks (encR ks s 10) = s := by
  rw [decL, dec_enc_R ks s hs hk 10 (by omega)]
  exact AA _ _ hs (hk 0 (by omega))
theorem enc_dec_R (ks : List (List Int)) (s : List Int) (hs : By16 s) (hk : ∀ i, i < 11 → By16 (ks.getD i [])) (n : Nat) : n ≤ 10 → encR ks (decL ks s) n = decR ks s (10 - n) := by
  induction n with
  | zero => intro _; exact AA _ _ (decR_by ks s hs 10) (hk 0 (by omega))
  | succ n ih =>
    intro h
    rw [encR, ih (by omega), show 10 - n = (10 - (n + 1)) + 1 from by omega, decR, show 10 - (10 - (n + 1)) = n + 1 from by omega]
    exact step_forth ks _ _ (decR_by ks s hs _) (hk _ (by omega))
theorem enc_dec (ks : List (List Int)) (s : List Int) (hs : By16 s) (hk : ∀ i, i < 11 → By16 (ks.getD i [])) : encR ks (decL ks s) 10 = s := enc_dec_R ks s hs hk 10 (by omega)
theorem decL_by (ks : List (List Int)) (s : List Int) (hs : By16 s) : By16 (decL ks s) := add_by _ _ (decR_by ks s hs 10).1
theorem aesDec_ok (m : Nat) (key st : List Int) (hk : By16 key) (hs : By16 st) : aes_Decrypt.f (m + 181) key st = some (decL (kgo 10 [key] key 1) st, none) := by
  unfold aes_Decrypt.f
  rw [aesKeys_ok m key hk]
  simp only [Option.bind_some, Option.isNone_none, if_true]
  rw [if_pos hs.1, if_pos (keys_okK key hk)]
end Go.Proofs.Ytpcdkfbngoagnaa.Pure
