-- PRINTED by print.py (a twelfth state) out of the translation. Not trusted: Lean checks it.
import Derived.Test.YtpcdkfbngoagnaaCx0
namespace Go.Proofs.Ytpcdkfbngoagnaa.C
open Go.RowKit Go.Proofs.YtpcdkfbngoagnaaW.PrintWords Go.Proofs.YtpcdkfbngoagnaaW.PrintLast Go.Proofs.YtpcdkfbngoagnaaW.PrintMore
attribute [local go_sem] max2_int min2_int max_two min_two max_three min_three max_four min_four   -- for this text's walks alone
set_option linter.unusedVariables false
set_option linter.unusedSimpArgs false

-- OWN FILE
/-! ### aes_state_add: function 35 -/
set_option maxHeartbeats 1000000 in
theorem state_add (g : Nat) (s : List Int) (A : Option Addr) (c : Nat) (l : List Int) (w0 w : World) (hs : s.length = 16) (hl : l.length = 16) (hg : w0.heap.size ≤ g)
 (hst : StAt w g s) (hB : Below w0.heap.size w0 w) (hr : ∀ W_, KeepBut w W_ g none → Kd.C (Kd.int .u8) W_ A l.length l) :
 Calls Try.prog 35 #[.pointer (some ⟨g, 0, none⟩), .slice A l.length c] w fun e w' => e = .returned (.tuple #[]) ∧ StAt w' g (xorS s l 16) ∧ Below w0.heap.size w0 w' ∧ KeepBut w w' g none := by
 obtain ⟨ad, rfl, _⟩ := Kd.at_int (hr w (KeepBut.refl _ _ _)) 0 (by omega) (by omega)
 have HR := Aside0.mk (fun (W_ : World) (hk : KeepBut w W_ g none) (k : Nat) (h : k < 16) => (show W_.cell? (ad.add k) = some (.int .u8 (l.getD k 0)) from by
  obtain ⟨a2, e2, h2⟩ := Kd.at_int (hr W_ hk) (k : Int) (by omega) (by omega)
  injection e2 with e2
  subst e2
  simpa [rd] using h2))
 have HS0 := Aside0.mk hst
 have HB0 := Aside0.mk hB
 have HL := Aside0.mk hl
 have HS := Aside0.mk hs
 have HG := Aside0.mk hg
 clear hr hst hB hl hs hg
 go_enter Try.func35, Try.ntmps35
 go_wp2
 go_loopw [5] (fun i wr => ∃ k : Nat, k ≤ 16 ∧ i = .int .i64 k ∧ Aside0 (StAt wr g (xorS s l k)) ∧ Aside0 (Below w0.heap.size w0 wr) ∧ Aside0 (KeepBut w wr g none)) (fun i _ => 16 - (intOf i).toNat)
 case atStart => exact ⟨0, by omega, rfl, ⟨by rw [xorS_zero]; exact HS0.out⟩, HB0, ⟨KeepBut.refl _ _ _⟩⟩
 case round =>
  obtain ⟨k, hk, rfl, HSr, HBr, HK⟩ := hrel
  by_cases hlt : k < 16
  · have hc1 := HSr.out.cell k hlt
    have hc2 := HR.out wr HK.out k hlt
    have hf1 := blk_frozen HSr.out k
    have hlt' : (k : Int) < 16 := by omega
    have hlen : k < l.length := by have := HL.out; omega
    go_wp2
    go_region
    go_wp2
    go_roundw
    case rel => exact ⟨k + 1, by omega, by go_num, ⟨by
     have h2 := HSr.out.set k (Go.bits .xor .u8 (s.getD k 0) (l.getD k 0)) (by rw [xorS_length]; have := HS.out; omega)
     rw [xorS_set k (by have := HS.out; omega)] at h2
     have e2 : (xorS s l k)[k]?.getD 0 = s.getD k 0 := by rw [← List.getD_eq_getElem?_getD]; exact xorS_get k (by have := HS.out; omega)
     have e3 : (l[k]'hlen) = l.getD k 0 := by simp [hlen]
     rw [e2, e3]
     exact blk_drew h2⟩, ⟨(HBr.out.drew).setCell HG.out _⟩, ⟨KeepBut.set_ (keep_drew HK.out) _ _⟩⟩
    case measure => simp [intOf]; omega
  · obtain rfl : k = 16 := by omega
    go_wp2
    go_end0
    exact ⟨rfl, HSr.out, HBr.out, HK.out⟩

end Go.Proofs.Ytpcdkfbngoagnaa.C

-- LEAN
