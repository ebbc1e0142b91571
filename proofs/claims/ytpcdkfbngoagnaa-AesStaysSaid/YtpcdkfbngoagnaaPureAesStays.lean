import Derived.Test.YtpcdkfbngoagnaaPEnc
import Derived.Test.YtpcdkfbngoagnaaPUp
import Derived.Test.YtpcdkfbngoagnaaHAesStays
namespace Go.Proofs.Ytpcdkfbngoagnaa.Pure
set_option linter.unusedVariables false
set_option linter.unusedSimpArgs false
open Go.RowKit Go.Proofs.Ytpcdkfbngoagnaa.C Go.Proofs.YtpcdkfbngoagnaaW.PrintWords Go.Proofs.YtpcdkfbngoagnaaW.PrintLast Go.Proofs.YtpcdkfbngoagnaaW.PrintMore
theorem AesStays (K Bl : List Int) (hwK : ∀ x ∈ K, (Lit.int .u8 x).wf = true) (A0 A1 : Option Addr) (c0 c1 : Nat) (w : World)
    (hr0 : Kd.C (Kd.int .u8) w A0 K.length K) (hc0 : K.length ≤ c0) (hr1 : Kd.C (Kd.int .u8) w A1 Bl.length Bl) (hc1 : Bl.length ≤ c1) (hn0 : K.length ≤ 140737488351232) (hn1 : Bl.length ≤ 140737488351232) :
    Calls Try.prog 8 #[.slice A0 K.length c0, .slice A1 Bl.length c1] w fun e w' => e = .returned (.bool true) ∧ Below w.heap.size w w' := by
  obtain ⟨m, hm⟩ : ∃ m, m = 600 := ⟨_, rfl⟩
  have hup := at_rounds (g := fun k => charterlaw03_up.f k) (fun k => charterlaw03_up.mono k) (show 400 ≤ m by omega) up_ok
  have hbK : ∀ x ∈ K, 0 ≤ x ∧ x < 256 := by
    intro x hx
    have h : IntKind.u8.min ≤ x ∧ x ≤ IntKind.u8.max := by simpa [Lit.wf] using hwK x hx
    have e1 : IntKind.u8.min = 0 := by decide +kernel
    have e2 : IntKind.u8.max = 255 := by decide +kernel
    omega
  by_cases hl : K.length = 16
  · have hb := by16_of K hl hwK
    have h1 := aesKeys_ok (m - 181) K hb
    rw [show m - 181 + 181 = m from by omega] at h1
    by_cases hb16 : Bl.length = 16
    · exact aesStays_ok m K Bl _ hbK A0 A1 c0 c1 w hr0 hc0 hr1 hc1 hn0 hn1 hup h1 hl (keys_okK K hb) hb16
    · exact aesStays_mid m K Bl _ hbK A0 A1 c0 c1 w hr0 hc0 hr1 hc1 hn0 hn1 hup h1 hl hb16
  · refine aesStays_err m K Bl [] hbK A0 A1 c0 c1 w hr0 hc0 hr1 hc1 hn0 hn1 hup ?_ hl
    unfold aes_Keys.f
    rw [if_neg (by omega)]
theorem AesStays_walk (a0 : Option Addr) (len0 cap0 : Nat) (z0 : List Int) (a1 : Option Addr) (len1 cap1 : Nat) (z1 : List Int) (w : World)
    (w0 : (a0 = none ∧ len0 = 0 ∧ cap0 = 0 ∧ z0 = []) ∨ ∃ x, a0 = some x ∧ len0 ≤ cap0 ∧ cap0 ≤ maxLen ∧ z0.length = cap0 ∧ (∀ i, i < z0.length → w.cell? (x.add i) = some (.int .u8 (z0.getD i 0))) ∧ ∀ n ∈ z0, (Lit.int .u8 n).wf = true)
    (w1 : (a1 = none ∧ len1 = 0 ∧ cap1 = 0 ∧ z1 = []) ∨ ∃ x, a1 = some x ∧ len1 ≤ cap1 ∧ cap1 ≤ maxLen ∧ z1.length = cap1 ∧ (∀ i, i < z1.length → w.cell? (x.add i) = some (.int .u8 (z1.getD i 0))) ∧ ∀ n ∈ z1, (Lit.int .u8 n).wf = true)
    (y0 : len0 * 1 ≤ 140737488351232) (y1 : len1 * 1 ≤ 140737488351232) :
    Calls Try.prog 8 #[.slice a0 len0 cap0, .slice a1 len1 cap1] w fun e w' => e = .returned (.bool true) ∧ Below w.heap.size w w' := by
  obtain ⟨l0, rfl, hr0, hm0, hw0, hc0⟩ := ReadsInt.ofRowC w0
  obtain ⟨l1, rfl, hr1, hm1, hw1, hc1⟩ := ReadsInt.ofRowC w1
  exact AesStays l0 l1 hw0 _ _ _ _ w (Kd.C_of_reads (d := (0 : Int)) (h1 := fun _ => rfl) hr0) hc0 (Kd.C_of_reads (d := (0 : Int)) (h1 := fun _ => rfl) hr1) hc1 (by omega) (by omega)
end Go.Proofs.Ytpcdkfbngoagnaa.Pure
