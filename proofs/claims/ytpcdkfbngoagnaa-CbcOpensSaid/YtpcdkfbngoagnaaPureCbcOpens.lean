import Derived.Test.YtpcdkfbngoagnaaPCbd
import Derived.Test.YtpcdkfbngoagnaaHCbcOpens
namespace Go.Proofs.Ytpcdkfbngoagnaa.Pure
set_option linter.unusedVariables false
set_option linter.unusedSimpArgs false
open Go.RowKit Go.Proofs.Ytpcdkfbngoagnaa.C Go.Proofs.YtpcdkfbngoagnaaW.PrintWords Go.Proofs.YtpcdkfbngoagnaaW.PrintLast Go.Proofs.YtpcdkfbngoagnaaW.PrintMore

/-- The reference finds no text where none is told. -/
theorem rempty_no (b : List Int) (hb : Bytes b) (hl : b.length = 16) (hno : ∀ t, fillL t ≠ b) : ∀ (d i m : Nat), i + d = 17 → 1 ≤ i → charterref04_Empty.l0 (m + 2 * d + 30) b i = some ([], false) := by
  intro d
  induction d with
  | zero =>
    intro i m h h1
    rw [show m + 2 * 0 + 30 = (m + 28) + 1 + 1 from by omega, charterref04_Empty.l0, if_neg (by omega), charterref04_Empty.j1, if_neg (by decide)]
  | succ d ih =>
    intro i m h h1
    have hw : wrap64 ((b.length : Int) - (i : Int)) = ((16 - i : Nat) : Int) := by unfold wrap64; omega
    have hf := rfill_ok (m + 2 * d + 30 - 17) (b.take (16 - i)) (by simp; omega)
    rw [show m + 2 * d + 30 - 17 + 17 = m + 2 * d + 30 from by omega] at hf
    rw [show m + 2 * (d + 1) + 30 = (m + 2 * d + 30) + 1 + 1 from by omega, charterref04_Empty.l0, if_pos (by omega), decide_eq_true (by omega), charterref04_Empty.j1, if_pos rfl, hw, if_pos (by omega), if_pos (by omega), Int.toNat_natCast, hf, Option.bind_some, if_neg, wrapN i (by omega), ih (i + 1) m (by omega) (by omega)]
    intro h
    exact hno _ (str_inj _ _ (fillL_bytes' _ (fun x hx => hb x (List.mem_of_mem_take hx))) hb h)
theorem rempty_ok (m : Nat) (b : List Int) (hb : Bytes b) (hl : b.length = 16) (hno : ∀ t, fillL t ≠ b) : charterref04_Empty.f (m + 62) b = some ([], false) := by
  have := rempty_no b hb hl hno 16 1 m (by omega) (by omega)
  rw [show m + 2 * 16 + 30 = m + 62 from by omega, show ((1 : Nat) : Int) = 1 from rfl] at this
  exact this
/-- A whole that ends in a filled block is filled. -/
theorem fill_whole (o t : List Int) (n : Nat) (ho : o.length = 16 * n + 16) (h : fillL t = o.drop (16 * n)) : fillL (o.take (16 * n) ++ t) = o := by
  have htl : (o.take (16 * n)).length = 16 * n := by simp; omega
  have hf : fillN (o.take (16 * n) ++ t) = fillN t := by simp only [fillN, List.length_append, htl]; omega
  rw [fillL, hf, List.append_assoc, ← fillL, h, List.take_append_drop]
/-- The last block of what is opened. -/
theorem openC_last (ks : List (List Int)) : ∀ (bs : List (List Int)) (last c : List Int), openC ks last (bs ++ [c]) = openC ks last bs ++ [xorS (decL ks c) (bs.getLastD last) 16]
  | [], last, c => by simp [openC]
  | b :: bs, last, c => by
    rw [List.cons_append, openC, openC_last ks bs b c, openC, List.cons_append]
    cases bs with
    | nil => rfl
    | cons d ds => simp [List.getLastD]
theorem blkTo_snoc (l : List Int) (n : Nat) : blkTo l (n + 1) = blkTo l n ++ [blkAt l n] := by simp [blkTo, List.range_succ]
theorem blkTo_last (l last : List Int) (n : Nat) : (blkTo l n).getLastD last = if n = 0 then last else blkAt l (n - 1) := by
  cases n with
  | zero => rfl
  | succ n => rw [blkTo_snoc]; simp
theorem openF_last (ks : List (List Int)) (last l : List Int) (hb : Bytes l) (n : Nat) (hn : l.length = 16 * n + 16) :
    (openF ks last (blkTo l (n + 1))).1.drop (16 * n) = xorS (decL ks (blkAt l n)) (if n = 0 then last else blkAt l (n - 1)) 16 := by
  have hby := blkTo_by l hb (n + 1) (by omega)
  have hby2 : ∀ b ∈ blkTo l n, By16 b := fun b hb' => hby b (by rw [blkTo_snoc]; simp [hb'])
  rw [openF, openC_eq, List.nil_append, blkTo_snoc, openC_last, List.flatten_append, blkTo_last]
  have hfl := flatten_len (openC ks last (blkTo l n)) (fun c hc => (openC_by ks _ last hby2 c hc).1)
  rw [openC_length, blkTo_length] at hfl
  rw [← hfl, List.drop_left]
  simp

theorem CbcOpens (l0 l1 l2 : List Int) (hw0 : ∀ x ∈ l0, (Lit.int .u8 x).wf = true) (hw1 : ∀ x ∈ l1, (Lit.int .u8 x).wf = true) (hw2 : ∀ x ∈ l2, (Lit.int .u8 x).wf = true) (A0 : Option Addr) (c0 : Nat) (A1 : Option Addr) (c1 : Nat) (A2 : Option Addr) (c2 : Nat) (w : World)
    (hr0 : Kd.C (Kd.int .u8) w A0 l0.length l0) (hc0 : l0.length ≤ c0) (hr1 : Kd.C (Kd.int .u8) w A1 l1.length l1) (hc1 : l1.length ≤ c1) (hr2 : Kd.C (Kd.int .u8) w A2 l2.length l2) (hc2 : l2.length ≤ c2) :
    Calls Try.prog 10 #[.slice A0 l0.length c0, .slice A1 l1.length c1, .slice A2 l2.length c2] w fun e w' => e = .returned (.bool true) ∧ Below w.heap.size w w' := by
  obtain ⟨m, hm⟩ : ∃ m, m = 200000 := ⟨_, rfl⟩
  have hup := at_rounds (g := fun k => charterlaw04_up.f k) (fun k => charterlaw04_up.mono k) (show 400 ≤ m by omega) up4_ok
  obtain ⟨L, hL⟩ : ∃ L, L = l2.take 320 := ⟨_, rfl⟩
  have hLl : L.length ≤ 320 := by rw [hL]; simp; omega
  have hLb : Bytes L := by rw [hL]; exact fun x hx => bytes_of l2 hw2 x (List.mem_of_mem_take hx)
  by_cases hbad : l0.length ≠ 16 ∨ l1.length ≠ 16 ∨ L.length = 0 ∨ L.length % 16 ≠ 0
  · refine opens_bad m A0 c0 l0 A1 c1 l1 A2 c2 l2 L w hr0 hc0 hr1 hc1 hr2 hc2 hup hL ?_ hbad
    unfold cbc_Open.f
    by_cases g0 : l0.length ≠ 16
    · rw [if_pos g0]
    · rw [if_neg g0]
      by_cases g1 : l1.length ≠ 16
      · rw [if_pos g1]
      · rw [if_neg g1]
        by_cases g2 : L.length = 0
        · rw [if_pos g2]
        · rw [if_neg g2, if_pos (by omega)]
  · have h0 : l0.length = 16 := by omega
    have h1 : l1.length = 16 := by omega
    have hk := by16_of l0 h0 hw0
    have hb := by16_of l1 h1 hw1
    obtain ⟨n, hn⟩ : ∃ n, L.length = 16 * n + 16 := ⟨L.length / 16 - 1, by omega⟩
    have hop := copen_ok (m - 200) l0 l1 L hk h1 hLb (n + 1) (by omega) (by omega) (by omega)
    rw [show m - 200 + 200 = m from by omega] at hop
    have hout := openF_out (kgo 10 [l0] l0 1) l1 L hLb (n + 1) (by omega)
    have hkb : ∀ i, i < 11 → By16 ((kgo 10 [l0] l0 1).getD i []) := fun i hi => keys_by l0 hk i hi
    have hso := sealF_openF (kgo 10 [l0] l0 1) hkb l1 L hb hLb (n + 1) (by omega)
    have hla := openF_last (kgo 10 [l0] l0 1) l1 L hLb n hn
    obtain ⟨o, ho⟩ : ∃ o, o = (openF (kgo 10 [l0] l0 1) l1 (blkTo L (n + 1))).1 := ⟨_, rfl⟩
    rw [← ho] at hop hout hso hla
    have hK := aesKeys_ok (m - 181) l0 hk
    rw [show m - 181 + 181 = m from by omega] at hK
    obtain ⟨⟨t, e⟩, hte⟩ : ∃ te, emptyL o = te := ⟨_, rfl⟩
    rw [hte] at hop
    rcases emptyL_err o t e hte with rfl | ⟨rfl, rfl⟩
    · have hfl := fillL_emptyL o t hte
      have htab := table_ok (m - 573)
      rw [show 573 + (m - 573) = m from by omega] at htab
      have hln := fillL_length t
      rw [hfl, hout.1] at hln
      have hse := rseal_ok (m - 100000) l0 l1 t hk h1 (by omega)
      rw [show m - 100000 + 100000 = m from by omega, hfl, show t.length / 16 + 1 = n + 1 from by omega, hso] at hse
      exact opens_ok m A0 c0 l0 A1 c1 l1 A2 c2 l2 L t aes_substitutes_L w hr0 hc0 hr1 hc1 hr2 hc2 hup hL hop h0 h1 (by omega) (by omega) htab hse
    · have hno : ∀ t, fillL t ≠ o.drop (16 * n) := by
        intro t ht
        have hw := fill_whole o t n (by omega) ht
        have := emptyL_fillL (o.take (16 * n) ++ t)
        rw [hw, hte] at this
        simp at this
      have hdl : (o.drop (16 * n)).length = 16 := by simp; omega
      have hre := rempty_ok (m - 62) (o.drop (16 * n)) (fun x hx => hout.2 x (List.mem_of_mem_drop hx)) hdl hno
      rw [show m - 62 + 62 = m from by omega, hla] at hre
      exact opens_err m A0 c0 l0 A1 c1 l1 A2 c2 l2 L _ _ [] (kgo 10 [l0] l0 1) n w hr0 hc0 hr1 hc1 hr2 hc2 hup hL hop h0 h1 hn (by omega) hK (keys_okK l0 hk) rfl rfl hre
theorem CbcOpens_walk (a0 : Option Addr) (len0 cap0 : Nat) (z0 : List Int) (a1 : Option Addr) (len1 cap1 : Nat) (z1 : List Int) (a2 : Option Addr) (len2 cap2 : Nat) (z2 : List Int) (w : World) (w0 : (a0 = none ∧ len0 = 0 ∧ cap0 = 0 ∧ z0 = []) ∨ ∃ x, a0 = some x ∧ len0 ≤ cap0 ∧ cap0 ≤ maxLen ∧ z0.length = cap0 ∧ (∀ i, i < z0.length → w.cell? (x.add i) = some (.int .u8 (z0.getD i 0))) ∧ ∀ n ∈ z0, (Lit.int .u8 n).wf = true) (w1 : (a1 = none ∧ len1 = 0 ∧ cap1 = 0 ∧ z1 = []) ∨ ∃ x, a1 = some x ∧ len1 ≤ cap1 ∧ cap1 ≤ maxLen ∧ z1.length = cap1 ∧ (∀ i, i < z1.length → w.cell? (x.add i) = some (.int .u8 (z1.getD i 0))) ∧ ∀ n ∈ z1, (Lit.int .u8 n).wf = true) (w2 : (a2 = none ∧ len2 = 0 ∧ cap2 = 0 ∧ z2 = []) ∨ ∃ x, a2 = some x ∧ len2 ≤ cap2 ∧ cap2 ≤ maxLen ∧ z2.length = cap2 ∧ (∀ i, i < z2.length → w.cell? (x.add i) = some (.int .u8 (z2.getD i 0))) ∧ ∀ n ∈ z2, (Lit.int .u8 n).wf = true) :
    Calls Try.prog 10 #[.slice a0 len0 cap0, .slice a1 len1 cap1, .slice a2 len2 cap2] w fun e w' => e = .returned (.bool true) ∧ Below w.heap.size w w' := by
  obtain ⟨l0, rfl, hr0, hm0, hw0, hc0⟩ := ReadsInt.ofRowC w0
  obtain ⟨l1, rfl, hr1, hm1, hw1, hc1⟩ := ReadsInt.ofRowC w1
  obtain ⟨l2, rfl, hr2, hm2, hw2, hc2⟩ := ReadsInt.ofRowC w2
  exact CbcOpens l0 l1 l2 hw0 hw1 hw2 _ _ _ _ _ _ w (Kd.C_of_reads (d := (0 : Int)) (h1 := fun _ => rfl) hr0) hc0 (Kd.C_of_reads (d := (0 : Int)) (h1 := fun _ => rfl) hr1) hc1 (Kd.C_of_reads (d := (0 : Int)) (h1 := fun _ => rfl) hr2) hc2
end Go.Proofs.Ytpcdkfbngoagnaa.Pure
