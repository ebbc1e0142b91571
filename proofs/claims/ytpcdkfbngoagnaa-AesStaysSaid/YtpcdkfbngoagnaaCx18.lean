-- PRINTED by print.py (a twelfth state) out of the translation. Not trusted: Lean checks it.
import Derived.Test.YtpcdkfbngoagnaaCx0
import Derived.Test.YtpcdkfbngoagnaaCx5
import Derived.Test.YtpcdkfbngoagnaaCx6
import Derived.Test.YtpcdkfbngoagnaaCx7
import Derived.Test.YtpcdkfbngoagnaaCx9
import Derived.Test.YtpcdkfbngoagnaaCx11
import Derived.Test.YtpcdkfbngoagnaaCx12
namespace Go.Proofs.Ytpcdkfbngoagnaa.C
open Go.RowKit Go.Proofs.YtpcdkfbngoagnaaW.PrintWords Go.Proofs.YtpcdkfbngoagnaaW.PrintLast Go.Proofs.YtpcdkfbngoagnaaW.PrintMore
attribute [local go_sem] max2_int min2_int max_two min_two max_three min_three max_four min_four   -- for this text's walks alone
set_option linter.unusedVariables false
set_option linter.unusedSimpArgs false

-- OWN FILE
/-! ### aes_Decrypt: function 22 -/
theorem byD_rng (i : Nat) : 0 ≤ ([14, 11, 13, 9] : List Int).getD i 0 ∧ ([14, 11, 13, 9] : List Int).getD i 0 < 256 := by
 match i with
 | 0 | 1 | 2 | 3 => decide
 | n + 4 => simp
def midD (i : Nat) (a : List Int) : List Int := if i < 10 then partL (mixF [14, 11, 13, 9] a) 16 else a
def stepD (ks : List (List Int)) (i : Nat) (s : List Int) : List Int := partL (turnB (midD i (xorS s (ks.getD i []) 16))) 16
/-- Behind n of the ten steps back. -/
def decR (ks : List (List Int)) (s : List Int) : Nat → List Int
 | 0 => s
 | n + 1 => stepD ks (10 - n) (decR ks s n)
def decL (ks : List (List Int)) (s : List Int) : List Int := xorS (decR ks s 10) (ks.getD 0 []) 16
theorem decR_length (ks : List (List Int)) (s : List Int) (hs : s.length = 16) (n : Nat) : (decR ks s n).length = 16 := by
 cases n with
 | zero => exact hs
 | succ n => rw [decR, stepD]; exact partL_length _ _
def aes_Decrypt.f (k : Nat) (l0 : List Int) (l1 : List Int) : Option (List Int × Option Int) :=
 (aes_Keys.f k l0).bind fun t => if t.2.isNone = true then (if l1.length = 16 then (if okK t.1 = true then some (decL t.1 l1, none) else none) else some ([], some 1)) else some ([], some 1)
theorem aes_Decrypt.mono : ∀ a0 a1 k, LeO (aes_Decrypt.f k a0 a1) (aes_Decrypt.f (k + 1) a0 a1) := by
 intro a0 a1 k
 unfold aes_Decrypt.f
 exact LeO.bind (aes_Keys.mono _ _) (fun _ => LeO.refl _)

set_option maxHeartbeats 4000000 in
theorem decrypt_st (k : Nat) (A0 : Option Addr) (c0 : Nat) (l0 : List Int) (A1 : Option Addr) (c1 : Nat) (l1 : List Int) (ks : List (List Int)) (w : World) (hr0 : Kd.C (Kd.int .u8) w A0 l0.length l0) (hc0 : l0.length ≤ c0) (hr1 : Kd.C (Kd.int .u8) w A1 l1.length l1) (hc1 : l1.length ≤ c1)
 (h : aes_Keys.f k l0 = some (ks, none)) (hl : l1.length = 16) (hk : okK ks = true) :
 Calls Try.prog 22 #[.slice A0 l0.length c0, .slice A1 l1.length c1] w fun e w' => ∃ g : Nat, e = .returned (.tuple #[.slice (some ⟨g, 0, none⟩) 16 16, .nilIface]) ∧ w.heap.size ≤ g ∧ StAt w' g (decL ks l1) ∧ Below w.heap.size w w' := by
 have HB0 := Aside0.mk (both_ok k A0 c0 l0 A1 c1 l1 ks w hr0 hc0 hr1 hc1 h hl)
 have HL := Aside0.mk hl
 have HO := Aside0.mk (okK_spec hk)
 clear hr0 hc0 hr1 hc1 h hl hk
 have hz55 := zero55
 have hu28 := Try.underlying28
 go_enter Try.func22, Try.ntmps22
 go_wp2_with fail
 refine HB0.out.mono ?_
 rintro e w1 ⟨v0, rfl, hN, hb1⟩
 obtain ⟨KA, Kc, rfl⟩ := Kd.N_slice hN
 have hlen := HO.out.1
 obtain ⟨ad, rfl⟩ : ∃ ad, KA = some ad := by
  obtain ⟨a, e, _⟩ := (Kd.N_reads' hN).2.2.2.2 (by omega)
  exact ⟨a, e⟩
 have HN := Aside0.mk (Kd.N_mono (Kd.N_bound hN) (fun k hk => (show k ≠ w1.heap.size by omega)))
 have HB1 := Aside0.mk hb1
 have HLN := Aside0.mk hlen
 clear hN hb1 HB0 hlen
 obtain ⟨W2, hW2⟩ : ∃ W, W = w1.alloc (.cells (arrV 16 .u8 l1) 55) := ⟨_, rfl⟩
 have HS2 := Aside0.mk (show StAt W2 w1.heap.size l1 by rw [hW2]; exact heap_alloc_last w1 _)
 have HN2 := Aside0.mk (show Kd.N (Kd.slice 5 (Kd.int .u8)) 25 W2 w.heap.size (fun k => k ≠ w1.heap.size) (.slice (some ad) ks.length Kc) ks by rw [hW2]; exact Kd.N_alloc HN.out _)
 have HB2 := Aside0.mk (show Below w.heap.size w W2 by rw [hW2]; exact HB1.out.alloc HB1.out.size _)
 have HW2 := Aside0.mk hW2
 clear hW2
 have hlk : 0 < ks.length := by have := HLN.out; omega
 go_wp2_with (refine wpList_store_rowTo rfl 55 _ _ rfl rfl w1.heap.size (arrV 16 .u8 l1) rfl rfl 55 _ (heap_alloc_last w1 _) (by kernel_rfl) (by simp [arrV_size]) (arrV_one _ _ _) ?_; rw [World.setRow_alloc_new, ← HW2.out])
 go_loopw [9] (fun i wr => ∃ n : Nat, n ≤ 10 ∧ i = .int .i64 (10 - n : Nat) ∧ Aside0 (StAt wr w1.heap.size (decR ks l1 n)) ∧ Aside0 (Below w.heap.size w wr) ∧ Aside0 (Kd.N (Kd.slice 5 (Kd.int .u8)) 25 wr w.heap.size (fun k => k ≠ w1.heap.size) (.slice (some ad) ks.length Kc) ks)) (fun i _ => (intOf i).toNat)
 case atStart => exact ⟨0, by omega, rfl, HS2, HB2, HN2⟩
 case round =>
  obtain ⟨n, hn, rfl, HSr, HBr, HNr⟩ := hrel
  by_cases hlt : n < 10
  · obtain ⟨m, hm⟩ : ∃ m, m = 10 - n := ⟨_, rfl⟩
    rw [← hm]
    have HMN := Aside0.mk hm
    have hmb : m ≤ 10 := by omega
    have hmp : 0 < m := by omega
    clear hm
    have hmp2 : decide (0 < (m : Int)) = true := decide_eq_true (by omega)
    have hlk2 : m < ks.length := by have := HLN.out; omega
    have hlr := decR_length ks l1 HL.out n
    obtain ⟨s, hs⟩ : ∃ s, s = decR ks l1 n := ⟨_, rfl⟩
    rw [← hs] at hlr HSr
    obtain ⟨row, Ak, ck, HKr, hck, HRk⟩ := key_row HNr.out m hlk2
    have HA := Aside0.mk (state_add w1.heap.size s Ak ck row w wr hlr (by rw [HKr.out]; exact HO.out.2 m (by omega)) HB1.out.size HSr.out HBr.out HRk.out)
    have hck' : wr.cell? ⟨ad.block, ad.off + m, none⟩ = some (.slice Ak row.length ck) := by
     have hm0 : ¬ m = 0 := by omega
     simpa [Addr.add, hm0] using hck
    have HEQ := Aside0.mk hs
    have HLR := Aside0.mk hlr
    clear hs hlr HRk
    by_cases h9 : m < 10
    · have h9d : decide ((m : Int) < 10) = true := decide_eq_true (by omega)
      go_wp2_with fail
      refine HA.out.mono ?_
      rintro e w4 ⟨rfl, hS4, hB4, hK4⟩
      have HM := Aside0.mk (state_mix w1.heap.size (xorS s row 16) [14, 11, 13, 9] w w4 (by rw [xorS_length]; exact HLR.out) HB1.out.size byD_rng hS4 hB4)
      have HN4 := Aside0.mk (Kd.N_keep HNr.out hK4 (fun _ h => h))
      clear hS4 hB4 hK4 HA HNr HSr HBr hck' hck
      go_wp2_with fail
      refine HM.out.mono ?_
      rintro e w5 ⟨rfl, hS5, hB5, hK5⟩
      have HN5 := Aside0.mk (Kd.N_keep HN4.out hK5 (fun _ h => h))
      have HT := Aside0.mk (state_turnB w1.heap.size _ w w5 (partL_length _ _) HB1.out.size (mixL_rng _ _) hS5 hB5)
      clear hS5 hB5 hK5 HM HN4
      go_wp2_with fail
      refine HT.out.mono ?_
      rintro e w6 ⟨rfl, hS6, hB6, hK6⟩
      have HN6 := Aside0.mk (Kd.N_keep HN5.out hK6 (fun _ h => h))
      have HS6 := Aside0.mk hS6
      have HB6 := Aside0.mk hB6
      clear hS6 hB6 hK6 HT HN5
      go_wp2
      go_roundw
      case rel => exact ⟨n + 1, by omega, by have := HMN.out; rw [show (10 - (n + 1) : Nat) = m - 1 from by omega]; congr 1; omega, ⟨by rw [decR, ← HEQ.out, ← HMN.out, stepD, midD, if_pos (by omega), ← HKr.out]; exact HS6.out⟩, HB6, HN6⟩
      case measure => simp [intOf]; omega
    · have h9d : decide ((m : Int) < 10) = false := decide_eq_false (by omega)
      go_wp2_with fail
      refine HA.out.mono ?_
      rintro e w5 ⟨rfl, hS5, hB5, hK5⟩
      have HN5 := Aside0.mk (Kd.N_keep HNr.out hK5 (fun _ h => h))
      have HT := Aside0.mk (state_turnB w1.heap.size _ w w5 (by rw [xorS_length]; exact HLR.out) HB1.out.size (xorS_rng HLR.out) hS5 hB5)
      clear hS5 hB5 hK5 HA HNr HSr HBr hck' hck
      go_wp2_with fail
      refine HT.out.mono ?_
      rintro e w6 ⟨rfl, hS6, hB6, hK6⟩
      have HN6 := Aside0.mk (Kd.N_keep HN5.out hK6 (fun _ h => h))
      have HS6 := Aside0.mk hS6
      have HB6 := Aside0.mk hB6
      clear hS6 hB6 hK6 HT HN5
      go_wp2
      go_roundw
      case rel => exact ⟨n + 1, by omega, by have := HMN.out; rw [show (10 - (n + 1) : Nat) = m - 1 from by omega]; congr 1; omega, ⟨by rw [decR, ← HEQ.out, ← HMN.out, stepD, midD, if_neg (by omega), ← HKr.out]; exact HS6.out⟩, HB6, HN6⟩
      case measure => simp [intOf]; omega
  · have HE := Aside0.mk (show n = 10 by omega)
    obtain ⟨k0, A0k, c0k, HK0, h0k, HR0k⟩ := key_row HNr.out 0 (by have := HLN.out; omega)
    have h0k' : wr.cell? ad = some (.slice A0k k0.length c0k) := by simpa [Addr.add] using h0k
    have HA := Aside0.mk (state_add w1.heap.size _ A0k c0k k0 w wr (decR_length ks l1 HL.out n) (by rw [HK0.out]; exact HO.out.2 0 (by omega)) HB1.out.size HSr.out HBr.out HR0k.out)
    obtain ⟨m, hm⟩ : ∃ m, m = 10 - n := ⟨_, rfl⟩
    rw [← hm]
    have hmp2 : decide (0 < (m : Int)) = false := decide_eq_false (by omega)
    have hmp3 : ¬ 0 < m := by omega
    have hmp4 : ¬ 0 < (m : Int) := by omega
    have hmp5 : decide (0 < m) = false := decide_eq_false (by omega)
    clear hm h0k HR0k
    go_wp2_with fail
    refine HA.out.mono ?_
    rintro e w6 ⟨rfl, hS6, hB6, hK6⟩
    have HS6 := Aside0.mk hS6
    have HB6 := Aside0.mk hB6
    clear hS6 hB6 hK6 HA h0k'
    go_wp2_with fail
    go_ret2
    have hS := HS6.out
    rw [HE.out, HK0.out] at hS
    exact ⟨_, rfl, HB1.out.size, hS, HB6.out⟩
theorem decrypt_ok (k : Nat) (A0 : Option Addr) (c0 : Nat) (l0 : List Int) (A1 : Option Addr) (c1 : Nat) (l1 : List Int) (ks : List (List Int)) (w : World) (hr0 : Kd.C (Kd.int .u8) w A0 l0.length l0) (hc0 : l0.length ≤ c0) (hr1 : Kd.C (Kd.int .u8) w A1 l1.length l1) (hc1 : l1.length ≤ c1)
 (h : aes_Keys.f k l0 = some (ks, none)) (hl : l1.length = 16) (hk : okK ks = true) :
 Calls Try.prog 22 #[.slice A0 l0.length c0, .slice A1 l1.length c1] w fun e w' => ∃ v0_ : Value, e = .returned (.tuple #[v0_, .nilIface]) ∧ Kd.V (Kd.int .u8) 5 w' w.heap.size (fun k_ => (w.heap.size ≤ k_)) v0_ (decL ks l1) ∧ Below w.heap.size w w' := by
 refine (decrypt_st k A0 c0 l0 A1 c1 l1 ks w hr0 hc0 hr1 hc1 h hl hk).mono ?_
 rintro e w' ⟨g, rfl, hg, hS, hB⟩
 have hln : (decL ks l1).length = 16 := by rw [decL, xorS_length]; exact decR_length ks l1 hl 10
 have hv := Kd.V_mk (d := Kd.int .u8) (e := 5) (base := w.heap.size) (W := w') (ok := fun k_ => w.heap.size ≤ k_) (xs := decL ks l1) (A := some ⟨g, 0, none⟩) (c := 16) (by omega) (fun W' hW =>
  StAt.C (show StAt W' g _ from (hW g hg (blk_lt hS)).trans hS) hln)
 rw [hln] at hv
 exact ⟨_, rfl, hv, hB⟩

theorem decrypt_err (k : Nat) (A0 : Option Addr) (c0 : Nat) (l0 : List Int) (A1 : Option Addr) (c1 : Nat) (l1 : List Int) (r : List (List Int)) (r2 : Option Int) (w : World) (hr0 : Kd.C (Kd.int .u8) w A0 l0.length l0) (hc0 : l0.length ≤ c0)
 (h : aes_Keys.f k l0 = some (r, r2)) (hl : r2 = none → l1.length ≠ 16) :
 Calls Try.prog 22 #[.slice A0 l0.length c0, .slice A1 l1.length c1] w fun e w' => e = .returned (.tuple #[.slice none 0 0, .iface 31 (.int .i64 1)]) ∧ Below w.heap.size w w' := by
 have HB0 := Aside0.mk (both_err k A0 c0 l0 A1 c1 l1 r r2 w hr0 hc0 h hl)
 clear hr0 hc0 h hl
 have hz55 := zero55
 have hu28 := Try.underlying28
 have hu31 := Try.underlying31
 go_enter Try.func22, Try.ntmps22
 go_wp2_with fail
 refine HB0.out.mono ?_
 rintro e w1 ⟨rfl, hb1⟩
 have HB1 := Aside0.mk hb1
 clear hb1 HB0
 go_wp2_with (refine wpList_store_rowTo rfl 55 _ _ rfl rfl w1.heap.size (arrV 16 .u8 []) rfl rfl 55 _ (heap_alloc_last w1 _) (by kernel_rfl) rfl (arrV_one _ _ _) ?_)
 go_ret2
 exact ⟨rfl, below_setRow (HB1.out.alloc HB1.out.size _) HB1.out.size _⟩
theorem aes_Decrypt.calls (k : Nat) (A0 : Option Addr) (c0 : Nat) (l0 : List Int) (A1 : Option Addr) (c1 : Nat) (l1 : List Int) (r1 : List Int) (r2 : Option Int) (w : World) (hr0 : Kd.C (Kd.int .u8) w A0 l0.length l0) (hc0 : l0.length ≤ c0) (hr1 : Kd.C (Kd.int .u8) w A1 l1.length l1) (hc1 : l1.length ≤ c1) (h : aes_Decrypt.f k l0 l1 = some (r1, r2)) :
 Calls Try.prog 22 #[.slice A0 l0.length c0, .slice A1 l1.length c1] w fun e w' => ∃ v0_ : Value, e = .returned (.tuple #[v0_, errW r2]) ∧ Kd.V (Kd.int .u8) 5 w' w.heap.size (fun k_ => (w.heap.size ≤ k_)) v0_ r1 ∧ Below w.heap.size w w' := by
 unfold aes_Decrypt.f at h
 obtain ⟨⟨ks, e2⟩, hk, h⟩ := Option.bind_eq_some_iff.mp h
 have hbad : (some (([] : List Int), (some 1 : Option Int)) = some (r1, r2)) → (e2 = none → l1.length ≠ 16) → Calls Try.prog 22 #[.slice A0 l0.length c0, .slice A1 l1.length c1] w fun e w' => ∃ v0_ : Value, e = .returned (.tuple #[v0_, errW r2]) ∧ Kd.V (Kd.int .u8) 5 w' w.heap.size (fun k_ => (w.heap.size ≤ k_)) v0_ r1 ∧ Below w.heap.size w w' := by
  intro he hl
  injection he with he
  injection he with h1 h2
  subst h1 h2
  exact (decrypt_err k A0 c0 l0 A1 c1 l1 ks e2 w hr0 hc0 hk hl).mono fun e w' hh => ⟨_, hh.1, Kd.V_nil _ _ _ _ _, hh.2⟩
 cases e2 with
 | some c => exact hbad (by simpa using h) (by simp)
 | none =>
  simp only [Option.isNone_none, if_true] at h
  by_cases hl : l1.length = 16
  · rw [if_pos hl] at h
    by_cases ho : okK ks = true
    · rw [if_pos ho] at h
      injection h with h
      injection h with h1 h2
      subst h1 h2
      exact decrypt_ok k A0 c0 l0 A1 c1 l1 ks w hr0 hc0 hr1 hc1 hk hl ho
    · rw [if_neg ho] at h
      cases h
  · rw [if_neg hl] at h
    exact hbad h (fun _ => hl)

end Go.Proofs.Ytpcdkfbngoagnaa.C

-- LEAN
