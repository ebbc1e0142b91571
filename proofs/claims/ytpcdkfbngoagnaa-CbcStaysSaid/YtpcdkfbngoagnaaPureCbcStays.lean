import Derived.Test.YtpcdkfbngoagnaaPCbd
import Derived.Test.YtpcdkfbngoagnaaHCbcStays
namespace Go.Proofs.Ytpcdkfbngoagnaa.Pure
set_option linter.unusedVariables false
set_option linter.unusedSimpArgs false
open Go.RowKit Go.Proofs.Ytpcdkfbngoagnaa.C Go.Proofs.YtpcdkfbngoagnaaW.PrintWords Go.Proofs.YtpcdkfbngoagnaaW.PrintLast Go.Proofs.YtpcdkfbngoagnaaW.PrintMore

theorem emptyL_length (b : List Int) : (emptyL b).1.length ≤ b.length := by
  unfold emptyL
  split
  · simp
  · simp
theorem CbcStays (K Bg b : List Int) (hK : By16 K) (hBg : By16 Bg) (hwb : ∀ x ∈ b, (Lit.int .u8 x).wf = true) (A2 : Option Addr) (c2 : Nat) (w : World)
    (hr2 : Kd.C (Kd.int .u8) w A2 b.length b) (hc2 : b.length ≤ c2) :
    Calls Try.prog 13 #[.agg (arrV 16 .u8 K), .agg (arrV 16 .u8 Bg), .slice A2 b.length c2] w fun e w' => e = .returned (.bool true) ∧ Below w.heap.size w w' := by
  obtain ⟨m, hm⟩ : ∃ m, m = 2000 := ⟨_, rfl⟩
  have hup := at_rounds (g := fun k => charterlaw04_up.f k) (fun k => charterlaw04_up.mono k) (show 400 ≤ m by omega) up4_ok
  obtain ⟨b2, hb2⟩ : ∃ b2, b2 = b.take 300 := ⟨_, rfl⟩
  have hbl : b2.length ≤ 300 := by rw [hb2]; simp; omega
  have hbb : Bytes b2 := by rw [hb2]; exact fun x hx => bytes_of b hwb x (List.mem_of_mem_take hx)
  have h0 := fill_ok (m - 17) b2 (by omega)
  rw [show m - 17 + 17 = m from by omega] at h0
  have h1 := cseal_ok (m - 200) K Bg b2 hK hBg.1 (by omega)
  rw [show m - 200 + 200 = m from by omega] at h1
  have hfl := fillL_length b2
  have hso := sealF_out (kgo 10 [K] K 1) Bg (fillL b2) (b2.length / 16 + 1) hfl
  have h3 : ∃ T r, cbc_Open.f m K Bg b2 = some (T, r) ∧ T.length ≤ 100000 := by
    by_cases hbad : b2.length = 0 ∨ b2.length % 16 ≠ 0
    · refine ⟨[], some 1, ?_, by simp⟩
      unfold cbc_Open.f
      rw [if_neg (by simp [hK.1]), if_neg (by simp [hBg.1])]
      by_cases g : b2.length = 0
      · rw [if_pos g]
      · rw [if_neg g, if_pos (by omega)]
    · have hop := copen_ok (m - 200) K Bg b2 hK hBg.1 hbb (b2.length / 16) (by omega) (by omega) (by omega)
      rw [show m - 200 + 200 = m from by omega] at hop
      have ho := openF_out (kgo 10 [K] K 1) Bg b2 hbb (b2.length / 16) (by omega)
      have hl := emptyL_length (openF (kgo 10 [K] K 1) Bg (blkTo b2 (b2.length / 16))).1
      obtain ⟨te, hte⟩ : ∃ te, te = emptyL (openF (kgo 10 [K] K 1) Bg (blkTo b2 (b2.length / 16))).1 := ⟨_, rfl⟩
      rw [← hte] at hop hl
      obtain ⟨T, r⟩ := te
      exact ⟨T, r, hop, by simp only at hl; omega⟩
  obtain ⟨T, r, h3, hT⟩ := h3
  exact stays4 m K Bg b b2 _ _ T r hK.1 hBg.1 A2 c2 w hr2 hc2 hb2 hup h0 h1 h3 ⟨by omega, by omega, hT⟩
theorem CbcStays_walk (K Bg : List Int) (hK : K.length = 16) (wK : ∀ x ∈ K, (Lit.int .u8 x).wf = true) (hB : Bg.length = 16) (wB : ∀ x ∈ Bg, (Lit.int .u8 x).wf = true) (a2 : Option Addr) (len2 cap2 : Nat) (z2 : List Int) (w : World)
    (w2 : (a2 = none ∧ len2 = 0 ∧ cap2 = 0 ∧ z2 = []) ∨ ∃ x, a2 = some x ∧ len2 ≤ cap2 ∧ cap2 ≤ maxLen ∧ z2.length = cap2 ∧ (∀ i, i < z2.length → w.cell? (x.add i) = some (.int .u8 (z2.getD i 0))) ∧ ∀ n ∈ z2, (Lit.int .u8 n).wf = true) :
    Calls Try.prog 13 #[.agg (arrV 16 .u8 K), .agg (arrV 16 .u8 Bg), .slice a2 len2 cap2] w fun e w' => e = .returned (.bool true) ∧ Below w.heap.size w w' := by
  obtain ⟨l2, rfl, hr2, hm2, hw2, hc2⟩ := ReadsInt.ofRowC w2
  exact CbcStays K Bg l2 (by16_of K hK wK) (by16_of Bg hB wB) hw2 _ _ w (Kd.C_of_reads (d := (0 : Int)) (h1 := fun _ => rfl) hr2) hc2
end Go.Proofs.Ytpcdkfbngoagnaa.Pure
