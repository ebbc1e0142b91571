import Derived.Test.YtpcdkfbngoagnaaPCbd
import Derived.Test.YtpcdkfbngoagnaaCx27
namespace Go.Proofs.Ytpcdkfbngoagnaa.Pure
set_option linter.unusedVariables false
open Go.RowKit Go.Proofs.Ytpcdkfbngoagnaa.C Go.Proofs.YtpcdkfbngoagnaaW.PrintWords Go.Proofs.YtpcdkfbngoagnaaW.PrintLast

theorem zeros_by (n : Nat) : Bytes (List.replicate n 0) := by
  intro x hx
  have := List.eq_of_mem_replicate hx
  omega
theorem zeros_16 : By16 (List.replicate 16 0) := ⟨by simp, zeros_by 16⟩
theorem fillL_bytes (t : List Int) (ht : Bytes t) : Bytes (fillL t) := by
  have hn := fillN_le t
  intro x hx
  rcases List.mem_append.1 hx with h | h
  · exact ht x h
  · have := List.eq_of_mem_replicate h
    omega
theorem CbcLong : charterlaw04_CbcLong.Pure := by
  intro more
  obtain ⟨m, hm⟩ : ∃ m, m = 1000 := ⟨_, rfl⟩
  refine ⟨m + 1, ?_⟩
  unfold charterlaw04_CbcLong.f
  rw [at_rounds (g := fun k => charterlaw04_up.f k) (fun k => charterlaw04_up.mono k) (show 400 ≤ m + 1 by omega) up4_ok]
  obtain ⟨key, hkey⟩ : ∃ key, key = List.replicate 16 (0 : Int) := ⟨_, rfl⟩
  have hk : By16 key := by rw [hkey]; exact zeros_16
  simp only [Option.bind_some, ← hkey]
  rw [if_pos (by omega)]
  cases more with
  | true =>
    rw [if_pos rfl, charterlaw04_CbcLong.j0, if_pos (by omega), if_pos (by omega)]
    obtain ⟨t, ht⟩ : ∃ t, t = List.replicate (65536 + 1 : Int).toNat (0 : Int) := ⟨_, rfl⟩
    have htl : t.length = 65537 := by rw [ht, List.length_replicate]; rfl
    obtain ⟨c, hc⟩ : ∃ c, c = List.replicate 65568 (0 : Int) := ⟨_, rfl⟩
    have hcl : c.length = 65568 := by rw [hc, List.length_replicate]
    rw [← ht, ← hc]
    clear ht hc
    have h1 : cbc_Seal.f m key key t = some ([], some 4) := by
      unfold cbc_Seal.f
      rw [if_neg (by simp [hk.1]), if_neg (by simp [hk.1]), if_pos (by omega)]
    have h2 : cbc_Open.f m key key c = some ([], some 4) := by
      unfold cbc_Open.f
      rw [if_neg (by simp [hk.1]), if_neg (by simp [hk.1]), if_neg (by omega), if_neg (by omega), if_pos (by omega)]
    rw [h1]
    simp only [Option.bind_some, if_true]
    rw [if_pos (by omega), h2]
    rfl
  | false =>
    rw [if_neg (by decide), charterlaw04_CbcLong.j0, if_pos (by omega), if_pos (by omega)]
    obtain ⟨t, ht⟩ : ∃ t, t = List.replicate (65536 : Int).toNat (0 : Int) := ⟨_, rfl⟩
    have htl : t.length = 65536 := by rw [ht, List.length_replicate]; rfl
    have htb : Bytes t := by rw [ht]; exact zeros_by _
    rw [← ht]
    clear ht
    have h1 := cseal_ok (m - 200) key key t hk hk.1 (by omega)
    rw [show m - 200 + 200 = m from by omega] at h1
    have hfl := fillL_length t
    have hso := sealF_out (kgo 10 [key] key 1) key (fillL t) (t.length / 16 + 1) hfl
    have h2 := copen_ok (m - 200) key key _ hk hk.1 hso.2 _ hso.1 (by omega) (by omega)
    rw [show m - 200 + 200 = m from by omega, openF_sealF _ (fun i hi => keys_by key hk i hi) key (fillL t) hk (fillL_bytes t htb) _ hfl, emptyL_fillL] at h2
    rw [h1]
    simp only [Option.bind_some]
    rw [if_neg (by decide), h2]
    simp only [Option.bind_some, if_true, Option.isNone_none]
    rw [if_pos (by have := hso.1; omega), htl]
    rfl

end Go.Proofs.Ytpcdkfbngoagnaa.Pure
