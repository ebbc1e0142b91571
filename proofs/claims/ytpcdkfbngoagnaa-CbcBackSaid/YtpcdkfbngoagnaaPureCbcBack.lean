import Derived.Test.YtpcdkfbngoagnaaPCbd
import Derived.Test.YtpcdkfbngoagnaaHCbcBack
namespace Go.Proofs.Ytpcdkfbngoagnaa.Pure
set_option linter.unusedVariables false
set_option linter.unusedSimpArgs false
open Go.RowKit Go.Proofs.Ytpcdkfbngoagnaa.C Go.Proofs.YtpcdkfbngoagnaaW.PrintWords Go.Proofs.YtpcdkfbngoagnaaW.PrintLast Go.Proofs.YtpcdkfbngoagnaaW.PrintMore

theorem set_by (s : List Int) (h : By16 s) (j : Nat) (x y : Int) : By16 (s.set j (Go.bits .xor .u8 x y)) := by
  refine ⟨by rw [List.length_set]; exact h.1, fun z hz => ?_⟩
  rcases List.mem_or_eq_of_mem_set hz with h2 | rfl
  · exact h.2 z h2
  · exact xor_byte x y
/-- The beginning turned in one byte turns the same byte of the first block. -/
theorem xor_turn (b last : List Int) (hb : By16 b) (hl : By16 last) (j : Nat) (hj : j < 16) (y : Int) (hy0 : 0 ≤ y) (hy : y < 256) :
    xorS (xorS b last 16) (last.set j (Go.bits .xor .u8 (last.getD j 0) y)) 16 = b.set j (Go.bits .xor .u8 (b.getD j 0) y) := by
  refine ext16 _ _ (by rw [xorS_length, xorS_length, hb.1]) (by rw [List.length_set, hb.1]) (fun c r hc hr => ?_)
  obtain ⟨i, hi⟩ : ∃ i, i = 4 * c + r := ⟨_, rfl⟩
  rw [← hi]
  have hi16 : i < 16 := by omega
  rw [xorS_at _ _ (by rw [xorS_length, hb.1]) i hi16, xorS_at _ _ hb.1 i hi16]
  obtain ⟨n, e, l⟩ := getD_by b hb i
  obtain ⟨m, e2, l2⟩ := getD_by last hl i
  obtain ⟨q, rfl⟩ : ∃ q : Nat, y = q := ⟨y.toNat, by omega⟩
  have hq : q < 256 := by omega
  by_cases h : j = i
  · subst h
    have h1 : (last.set j (Go.bits .xor .u8 (last.getD j 0) q)).getD j 0 = Go.bits .xor .u8 (last.getD j 0) q := by
      simp [List.getD_eq_getElem?_getD, List.getElem?_set, hl.1, hj]
    have h2 : (b.set j (Go.bits .xor .u8 (b.getD j 0) q)).getD j 0 = Go.bits .xor .u8 (b.getD j 0) q := by
      simp [List.getD_eq_getElem?_getD, List.getElem?_set, hb.1, hj]
    rw [h1, h2, e, e2, xor8 _ _ l l2, xor8 _ _ l2 hq, xor8 _ _ l hq, xor8 _ _ (xor_lt l l2) (xor_lt l2 hq), ← Nat.xor_assoc, Nat.xor_assoc n m m, Nat.xor_self, Nat.xor_zero]
  · have h1 : (last.set j (Go.bits .xor .u8 (last.getD j 0) q)).getD i 0 = last.getD i 0 := by
      simp [List.getD_eq_getElem?_getD, List.getElem?_set, h]
    have h2 : (b.set j (Go.bits .xor .u8 (b.getD j 0) q)).getD i 0 = b.getD i 0 := by
      simp [List.getD_eq_getElem?_getD, List.getElem?_set, h]
    rw [h1, h2, e, e2, xor8 _ _ l l2, xor8 _ _ (xor_lt l l2) l2, Nat.xor_assoc, Nat.xor_self, Nat.xor_zero]
theorem openF_turn (ks : List (List Int)) (hk : ∀ i, i < 11 → By16 (ks.getD i [])) (last l : List Int) (hl : By16 last) (hb : Bytes l) (n : Nat) (hn : l.length = 16 * (n + 1)) (j : Nat) (hj : j < 16) (y : Int) (hy0 : 0 ≤ y) (hy : y < 256) :
    (openF ks (last.set j (Go.bits .xor .u8 (last.getD j 0) y)) (blkTo (sealF ks last (blkTo l (n + 1))).1 (n + 1))).1 = l.set j (Go.bits .xor .u8 (l.getD j 0) y) := by
  have hby := blkTo_by l hb (n + 1) hn
  have h1 := sealC_eq ks (blkTo l (n + 1)) [] last
  have h2 := sealC_length ks (blkTo l (n + 1)) last
  have h3 := blkTo_flatten (sealC ks last (blkTo l (n + 1))) (fun c hc => (sealC_by ks _ last (fun b hb' => (hby b hb').1) c hc).1)
  rw [h2, blkTo_length] at h3
  have hfl := flatten_blkTo (n + 1) l hn
  obtain ⟨b, bs, hbs⟩ : ∃ b bs, blkTo l (n + 1) = b :: bs := by
    cases h : blkTo l (n + 1) with
    | nil => have := congrArg List.length h; rw [blkTo_length] at this; simp at this
    | cons b bs => exact ⟨b, bs, rfl⟩
  rw [sealF, h1, List.nil_append, h3, openF, openC_eq, List.nil_append]
  rw [hbs] at hby hfl ⊢
  have hbb := hby b (by simp)
  rw [sealC, openC, dec_enc ks _ (add_by _ _ hbb.1) hk, xor_turn b last hbb hl j hj y hy0 hy, open_seal ks hk bs _ (encR_by ks _ (add_by _ _ hbb.1) 10) (fun x hx => hby x (by simp [hx])), ← hfl, List.flatten_cons, List.flatten_cons]
  rw [List.set_append_left _ _ (by rw [hbb.1]; exact hj)]
  congr 2
  simp [List.getD_eq_getElem?_getD, List.getElem?_append_left (show j < b.length by rw [hbb.1]; exact hj)]
theorem fillL_set (t : List Int) (j : Nat) (hj : j < t.length) (v : Int) : fillL (t.set j v) = (fillL t).set j v := by
  have : fillN (t.set j v) = fillN t := by simp [fillN]
  rw [fillL, fillL, this, List.set_append_left _ _ hj]

theorem CbcBack (K Bg a b : List Int) (hK : By16 K) (hBg : By16 Bg) (hwa : ∀ x ∈ a, (Lit.int .u8 x).wf = true) (hwb : ∀ x ∈ b, (Lit.int .u8 x).wf = true) (at_ by_ : Int) (hby : 0 ≤ by_ ∧ by_ < 256) (A2 : Option Addr) (c2 : Nat) (A3 : Option Addr) (c3 : Nat) (w : World)
    (hr2 : Kd.C (Kd.int .u8) w A2 a.length a) (hc2 : a.length ≤ c2) (hr3 : Kd.C (Kd.int .u8) w A3 b.length b) (hc3 : b.length ≤ c3) :
    Calls Try.prog 12 #[.agg (arrV 16 .u8 K), .agg (arrV 16 .u8 Bg), .slice A2 a.length c2, .slice A3 b.length c3, .int .i64 at_, .int .u8 by_] w fun e w' => e = .returned (.bool true) ∧ Below w.heap.size w w' := by
  obtain ⟨m, hm⟩ : ∃ m, m = 2000 := ⟨_, rfl⟩
  have hup := at_rounds (g := fun k => charterlaw04_up.f k) (fun k => charterlaw04_up.mono k) (show 400 ≤ m by omega) up4_ok
  have hkb : ∀ i, i < 11 → By16 ((kgo 10 [K] K 1).getD i []) := fun i hi => keys_by K hK i hi
  have sealT := fun (t : List Int) (ht : t.length ≤ 300) => cseal_ok (m - 200) K Bg t hK hBg.1 (by omega)
  rw [show m - 200 + 200 = m from by omega] at sealT
  have open_ := fun (B2 c : List Int) (hB2 : B2.length = 16) (hc : Bytes c) (n : Nat) (hn : c.length = 16 * n) (h0 : n ≠ 0) (h1 : n ≤ 4097) => copen_ok (m - 200) K B2 c hK hB2 hc n hn h0 h1
  rw [show m - 200 + 200 = m from by omega] at open_
  obtain ⟨a2, ha2⟩ : ∃ a2, a2 = a.take 300 := ⟨_, rfl⟩
  obtain ⟨b2, hb2⟩ : ∃ b2, b2 = b.take 300 := ⟨_, rfl⟩
  have hal : a2.length ≤ 300 := by rw [ha2]; simp; omega
  have hbl : b2.length ≤ 300 := by rw [hb2]; simp; omega
  have hab : Bytes a2 := by rw [ha2]; exact fun x hx => bytes_of a hwa x (List.mem_of_mem_take hx)
  have hbb : Bytes b2 := by rw [hb2]; exact fun x hx => bytes_of b hwb x (List.mem_of_mem_take hx)
  have told : ∀ t : List Int, Bytes t → t.length ≤ 300 → cbc_Open.f m K Bg (sealF (kgo 10 [K] K 1) Bg (blkTo (fillL t) (t.length / 16 + 1))).1 = some (t, none) := by
    intro t ht hl
    have hfl := fillL_length t
    have hso := sealF_out (kgo 10 [K] K 1) Bg (fillL t) (t.length / 16 + 1) hfl
    rw [open_ Bg _ hBg.1 hso.2 _ hso.1 (by omega) (by omega), openF_sealF _ hkb Bg (fillL t) hBg (fillL_bytes' t ht) _ hfl, emptyL_fillL]
  refine back_head m K Bg a b a2 b2 _ _ hK.1 hBg.1 at_ by_ A2 c2 A3 c3 w hr2 hc2 hr3 hc3 ha2 hb2 hup (sealT a2 hal) (sealT b2 hbl) (told a2 hab hal) ?_ ?_
  · have hsa := sealF_out (kgo 10 [K] K 1) Bg (fillL a2) (a2.length / 16 + 1) (fillL_length a2)
    have hsb := sealF_out (kgo 10 [K] K 1) Bg (fillL b2) (b2.length / 16 + 1) (fillL_length b2)
    rw [Bool.eq_iff_iff, beq_iff_eq, beq_iff_eq]
    constructor
    · intro h
      have h2 := str_inj _ _ hsa.2 hsb.2 h
      have t1 := told a2 hab hal
      rw [h2, told b2 hbb hbl] at t1
      injection t1 with t1
      injection t1 with t1
      rw [t1]
    · intro h
      rw [str_inj _ _ hab hbb h]
  · by_cases hc : 0 ≤ at_ ∧ at_ ≤ 15 ∧ 16 ≤ a2.length
    · obtain ⟨h0, h15, h16⟩ := hc
      refine .inr ⟨at_.toNat, by omega, by omega, h16, hal, ?_⟩
      have hj : at_.toNat < 16 := by omega
      obtain ⟨j, hj'⟩ : ∃ j, j = at_.toNat := ⟨_, rfl⟩
      rw [← hj'] at hj ⊢
      have hfl := fillL_length a2
      have hso := sealF_out (kgo 10 [K] K 1) Bg (fillL a2) (a2.length / 16 + 1) hfl
      rw [open_ _ _ (set_by Bg hBg j _ _).1 hso.2 _ hso.1 (by omega) (by omega), openF_turn _ hkb Bg (fillL a2) hBg (fillL_bytes' a2 hab) _ hfl j hj by_ hby.1 hby.2]
      have hg : (fillL a2).getD j 0 = a2.getD j 0 := by
        simp [fillL, List.getD_eq_getElem?_getD, List.getElem?_append_left (show j < a2.length by omega)]
      rw [hg, ← fillL_set a2 j (by omega), emptyL_fillL]
    · exact .inl hc
end Go.Proofs.Ytpcdkfbngoagnaa.Pure
namespace Go.Proofs.Ytpcdkfbngoagnaa.Pure
open Go.RowKit Go.Proofs.Ytpcdkfbngoagnaa.C Go.Proofs.YtpcdkfbngoagnaaW.PrintWords Go.Proofs.YtpcdkfbngoagnaaW.PrintLast Go.Proofs.YtpcdkfbngoagnaaW.PrintMore
theorem byte_of (x : Int) (hw : (Lit.int .u8 x).wf = true) : 0 ≤ x ∧ x < 256 := bytes_of [x] (fun y hy => by rw [List.mem_singleton.1 hy]; exact hw) x (by simp)
theorem CbcBack_walk (K Bg : List Int) (hK : K.length = 16) (wK : ∀ x ∈ K, (Lit.int .u8 x).wf = true) (hB : Bg.length = 16) (wB : ∀ x ∈ Bg, (Lit.int .u8 x).wf = true) (a2 : Option Addr) (len2 cap2 : Nat) (z2 : List Int) (a3 : Option Addr) (len3 cap3 : Nat) (z3 : List Int) (at_ by_ : Int) (hby : (Lit.int .u8 by_).wf = true) (w : World)
    (w2 : (a2 = none ∧ len2 = 0 ∧ cap2 = 0 ∧ z2 = []) ∨ ∃ x, a2 = some x ∧ len2 ≤ cap2 ∧ cap2 ≤ maxLen ∧ z2.length = cap2 ∧ (∀ i, i < z2.length → w.cell? (x.add i) = some (.int .u8 (z2.getD i 0))) ∧ ∀ n ∈ z2, (Lit.int .u8 n).wf = true)
    (w3 : (a3 = none ∧ len3 = 0 ∧ cap3 = 0 ∧ z3 = []) ∨ ∃ x, a3 = some x ∧ len3 ≤ cap3 ∧ cap3 ≤ maxLen ∧ z3.length = cap3 ∧ (∀ i, i < z3.length → w.cell? (x.add i) = some (.int .u8 (z3.getD i 0))) ∧ ∀ n ∈ z3, (Lit.int .u8 n).wf = true) :
    Calls Try.prog 12 #[.agg (arrV 16 .u8 K), .agg (arrV 16 .u8 Bg), .slice a2 len2 cap2, .slice a3 len3 cap3, .int .i64 at_, .int .u8 by_] w fun e w' => e = .returned (.bool true) ∧ Below w.heap.size w w' := by
  obtain ⟨l2, rfl, hr2, hm2, hw2, hc2⟩ := ReadsInt.ofRowC w2
  obtain ⟨l3, rfl, hr3, hm3, hw3, hc3⟩ := ReadsInt.ofRowC w3
  exact CbcBack K Bg l2 l3 (by16_of K hK wK) (by16_of Bg hB wB) hw2 hw3 at_ by_ (byte_of by_ hby) _ _ _ _ w (Kd.C_of_reads (d := (0 : Int)) (h1 := fun _ => rfl) hr2) hc2 (Kd.C_of_reads (d := (0 : Int)) (h1 := fun _ => rfl) hr3) hc3
end Go.Proofs.Ytpcdkfbngoagnaa.Pure
