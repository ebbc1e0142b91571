-- PRINTED by print.py (a twelfth state) out of the translation. Not trusted: Lean checks it.
import Derived.Test.YtpcdkfbngoagnaaCx0
import Derived.Test.YtpcdkfbngoagnaaCx5
import Derived.Test.YtpcdkfbngoagnaaCx6
import Derived.Test.YtpcdkfbngoagnaaCx7
import Derived.Test.YtpcdkfbngoagnaaCx9
import Derived.Test.YtpcdkfbngoagnaaCx11
namespace Go.Proofs.Ytpcdkfbngoagnaa.C
open Go.RowKit Go.Proofs.YtpcdkfbngoagnaaW.PrintWords Go.Proofs.YtpcdkfbngoagnaaW.PrintLast Go.Proofs.YtpcdkfbngoagnaaW.PrintMore
attribute [local go_sem] max2_int min2_int max_two min_two max_three min_three max_four min_four   -- for this text's walks alone
set_option linter.unusedVariables false
set_option linter.unusedSimpArgs false

-- OWN FILE
/-! ### aes_Encrypt: function 20 -/
theorem bits_u8_rng (op : BinOp) (x y : Int) : 0 ≤ Go.bits op .u8 x y ∧ Go.bits op .u8 x y < 256 := by
 unfold Go.bits
 simp only [IntKind.wrap_u8]
 omega
theorem xorS_rng {s l : List Int} (hs : s.length = 16) (i : Nat) : 0 ≤ (xorS s l 16).getD i 0 ∧ (xorS s l 16).getD i 0 < 256 := by
 rw [List.getD_eq_getElem?_getD]
 by_cases h : i < 16
 · have := bits_u8_rng .xor (s.getD i 0) (l.getD i 0)
   simp only [xorS, List.getElem?_map, List.getElem?_range (show i < s.length by omega), Option.map_some, Option.getD_some, if_pos h]
   exact this
 · rw [List.getElem?_eq_none (by rw [xorS_length]; omega)]
   simp
theorem accF_rng (s b : List Int) (c r n : Nat) : 0 ≤ accF s b c r n ∧ accF s b c r n < 256 := by
 cases n with
 | zero => simp [accF]
 | succ n => exact bits_u8_rng _ _ _
theorem partL_get (f : Nat → Int) (i : Nat) (h : i < 16) : (partL f 16).getD i 0 = f i := by
 rw [List.getD_eq_getElem?_getD]
 simp [partL, h]
theorem mixL_rng (b s : List Int) (i : Nat) : 0 ≤ (partL (mixF b s) 16).getD i 0 ∧ (partL (mixF b s) 16).getD i 0 < 256 := by
 by_cases h : i < 16
 · rw [partL_get _ i h]
   exact accF_rng _ _ _ _ _
 · rw [List.getD_eq_getElem?_getD, List.getElem?_eq_none (by rw [partL_length]; omega)]
   simp
/-- A state that is read as a slice. -/
theorem StAt.C {W : World} {g : Nat} {s : List Int} (h : StAt W g s) (hs : s.length = 16) : Kd.C (Kd.int .u8) W (some ⟨g, 0, none⟩) s.length s := by
 refine Kd.C_of_reads (enc := Value.int .u8) (d := 0) (h1 := fun _ => rfl) ⟨rfl, by omega, fun _ => ⟨_, rfl, fun j hj => ?_⟩⟩
 rw [Addr.add_mid, Nat.zero_add]
 exact h.cell j (by omega)
/-- One row of the keys, beside a state. -/
theorem key_row {W : World} {g base n c : Nat} {ad : Addr} {ks : List (List Int)} (h : Kd.N (Kd.slice 5 (Kd.int .u8)) 25 W base (fun k => k ≠ g) (.slice (some ad) n c) ks) (i : Nat) (hi : i < n) :
 ∃ row A c', Aside0 (row = ks.getD i []) ∧ W.cell? (ad.add i) = some (.slice A row.length c') ∧ Aside0 (∀ W_, KeepBut W W_ g none → Kd.C (Kd.int .u8) W_ A row.length row) := by
 obtain ⟨cs, hcl, hF, hc⟩ := Kd.N_get h [] (i : Int) (by omega) (by omega)
 obtain ⟨A, c', rfl, hl, hf⟩ := Kd.FK_slice_open hF
 have h2 := hc 0 _ rfl
 simp only [Int.toNat_natCast, Nat.add_zero, show ((Kd.slice 5 (Kd.int .u8))).sz = 1 from rfl, Nat.mul_one] at h2 hf
 exact ⟨_, A, c', ⟨rfl⟩, h2, ⟨fun W_ hk => Kd.F_now (Kd.F_keep hf hk (fun k hk2 => hk2.1))⟩⟩

theorem byE_rng (i : Nat) : 0 ≤ ([2, 3, 1, 1] : List Int).getD i 0 ∧ ([2, 3, 1, 1] : List Int).getD i 0 < 256 := by
 match i with
 | 0 | 1 | 2 | 3 => decide
 | n + 4 => simp
def stepE (ks : List (List Int)) (i : Nat) (s : List Int) : List Int :=
 xorS (if i < 10 then partL (mixF [2, 3, 1, 1] (partL (turnF s) 16)) 16 else partL (turnF s) 16) (ks.getD i []) 16
def encR (ks : List (List Int)) (s : List Int) : Nat → List Int
 | 0 => xorS s (ks.getD 0 []) 16
 | n + 1 => stepE ks (n + 1) (encR ks s n)
def okK (ks : List (List Int)) : Bool := decide (ks.length = 11) && ks.all (fun r => decide (r.length = 16))
theorem okK_spec {ks : List (List Int)} (h : okK ks = true) : ks.length = 11 ∧ ∀ i, i < 11 → (ks.getD i []).length = 16 := by
 simp only [okK, Bool.and_eq_true, decide_eq_true_eq, List.all_eq_true] at h
 refine ⟨h.1, fun i hi => ?_⟩
 rw [List.getD_eq_getElem?_getD, List.getElem?_eq_getElem (show i < ks.length by omega)]
 exact h.2 _ (List.getElem_mem _)
theorem encR_length (ks : List (List Int)) (s : List Int) (hs : s.length = 16) (n : Nat) : (encR ks s n).length = 16 := by
 cases n with
 | zero => rw [encR, xorS_length, hs]
 | succ n =>
  rw [encR, stepE, xorS_length]
  split <;> exact partL_length _ _
theorem encR_rng (ks : List (List Int)) (s : List Int) (hs : s.length = 16) (n i : Nat) : 0 ≤ (encR ks s n).getD i 0 ∧ (encR ks s n).getD i 0 < 256 := by
 cases n with
 | zero => exact xorS_rng hs i
 | succ n =>
  rw [encR, stepE]
  refine xorS_rng ?_ i
  split <;> exact partL_length _ _
def aes_Encrypt.f (k : Nat) (l0 : List Int) (l1 : List Int) : Option (List Int × Option Int) :=
 (aes_Keys.f k l0).bind fun t => if t.2.isNone = true then (if l1.length = 16 then (if okK t.1 = true then some (encR t.1 l1 10, none) else none) else some ([], some 1)) else some ([], some 1)
theorem aes_Encrypt.mono : ∀ a0 a1 k, LeO (aes_Encrypt.f k a0 a1) (aes_Encrypt.f (k + 1) a0 a1) := by
 intro a0 a1 k
 unfold aes_Encrypt.f
 exact LeO.bind (aes_Keys.mono _ _) (fun _ => LeO.refl _)

set_option maxHeartbeats 4000000 in
theorem encrypt_st (k : Nat) (A0 : Option Addr) (c0 : Nat) (l0 : List Int) (A1 : Option Addr) (c1 : Nat) (l1 : List Int) (ks : List (List Int)) (w : World) (hr0 : Kd.C (Kd.int .u8) w A0 l0.length l0) (hc0 : l0.length ≤ c0) (hr1 : Kd.C (Kd.int .u8) w A1 l1.length l1) (hc1 : l1.length ≤ c1)
 (h : aes_Keys.f k l0 = some (ks, none)) (hl : l1.length = 16) (hk : okK ks = true) :
 Calls Try.prog 20 #[.slice A0 l0.length c0, .slice A1 l1.length c1] w fun e w' => ∃ g : Nat, e = .returned (.tuple #[.slice (some ⟨g, 0, none⟩) 16 16, .nilIface]) ∧ w.heap.size ≤ g ∧ StAt w' g (encR ks l1 10) ∧ Below w.heap.size w w' := by
 have HB0 := Aside0.mk (both_ok k A0 c0 l0 A1 c1 l1 ks w hr0 hc0 hr1 hc1 h hl)
 have HL := Aside0.mk hl
 have HO := Aside0.mk (okK_spec hk)
 clear hr0 hc0 hr1 hc1 h hl hk
 have hz55 := zero55
 have hu28 := Try.underlying28
 go_enter Try.func20, Try.ntmps20
 go_wp2_with fail
 refine HB0.out.mono ?_
 rintro e w1 ⟨v0, rfl, hN, hb1⟩
 obtain ⟨KA, Kc, rfl⟩ := Kd.N_slice hN
 have hlen := HO.out.1
 obtain ⟨ad, rfl⟩ : ∃ ad, KA = some ad := by
  obtain ⟨a, e, _⟩ := (Kd.N_reads' hN).2.2.2.2 (by omega)
  exact ⟨a, e⟩
 have HN := Aside0.mk (Kd.N_mono (Kd.N_bound hN) (fun k hk => (show k ≠ w1.heap.size by omega)))
 have HB1 := Aside0.mk hb1
 have HLN := Aside0.mk hlen
 clear hN hb1 HB0 hlen
 obtain ⟨W2, hW2⟩ : ∃ W, W = w1.alloc (.cells (arrV 16 .u8 l1) 55) := ⟨_, rfl⟩
 have HS2 := Aside0.mk (show StAt W2 w1.heap.size l1 by rw [hW2]; exact heap_alloc_last w1 _)
 have HN2 := Aside0.mk (show Kd.N (Kd.slice 5 (Kd.int .u8)) 25 W2 w.heap.size (fun k => k ≠ w1.heap.size) (.slice (some ad) ks.length Kc) ks by rw [hW2]; exact Kd.N_alloc HN.out _)
 have HB2 := Aside0.mk (show Below w.heap.size w W2 by rw [hW2]; exact HB1.out.alloc HB1.out.size _)
 obtain ⟨k0, A0k, c0k, HK0, h0k, HR0k⟩ := key_row HN2.out 0 (by have := HLN.out; omega)
 have h0k' : W2.cell? ad = some (.slice A0k k0.length c0k) := by simpa [Addr.add] using h0k
 clear h0k
 have HW2 := Aside0.mk hW2
 clear hW2
 have hlk : 0 < ks.length := by have := HLN.out; omega
 go_wp2_with (refine wpList_store_rowTo rfl 55 _ _ rfl rfl w1.heap.size (arrV 16 .u8 l1) rfl rfl 55 _ (heap_alloc_last w1 _) (by kernel_rfl) (by simp [arrV_size]) (arrV_one _ _ _) ?_; rw [World.setRow_alloc_new, ← HW2.out])
 refine (state_add w1.heap.size l1 A0k c0k k0 w W2 HL.out (by rw [HK0.out]; exact HO.out.2 0 (by omega)) HB1.out.size HS2.out HB2.out HR0k.out).mono ?_
 rintro e w3 ⟨rfl, hS3, hB3, hK3⟩
 have HS3 := Aside0.mk hS3
 have HB3 := Aside0.mk hB3
 have HK3 := Aside0.mk hK3
 clear hS3 hB3 hK3 h0k' HS2
 have HN3 := Aside0.mk (Kd.N_keep HN2.out HK3.out (fun _ h => h))
 clear HN2 HR0k HK3 HB2 HW2
 go_wp2_with fail
 go_loopw [9] (fun i wr => ∃ n : Nat, n ≤ 10 ∧ i = .int .i64 (n + 1 : Nat) ∧ Aside0 (StAt wr w1.heap.size (encR ks l1 n)) ∧ Aside0 (Below w.heap.size w wr) ∧ Aside0 (Kd.N (Kd.slice 5 (Kd.int .u8)) 25 wr w.heap.size (fun k => k ≠ w1.heap.size) (.slice (some ad) ks.length Kc) ks)) (fun i _ => 11 - (intOf i).toNat)
 case atStart => exact ⟨0, by omega, rfl, ⟨by rw [encR, ← HK0.out]; exact HS3.out⟩, HB3, HN3⟩
 case round =>
  obtain ⟨n, hn, rfl, HSr, HBr, HNr⟩ := hrel
  by_cases hlt : n < 10
  · have hle : ((n + 1 : Nat) : Int) ≤ 10 := by omega
    have hlk2 : n + 1 < ks.length := by have := HLN.out; omega
    have hlr := encR_length ks l1 HL.out n
    obtain ⟨s, hs⟩ : ∃ s, s = encR ks l1 n := ⟨_, rfl⟩
    rw [← hs] at hlr HSr
    have hrg := encR_rng ks l1 HL.out n
    rw [← hs] at hrg
    have HT := Aside0.mk (state_turn w1.heap.size s w wr hlr HB1.out.size hrg HSr.out HBr.out)
    have HEQ := Aside0.mk hs
    clear hs hlr hrg
    by_cases h9 : n + 1 < 10
    · have h9d : decide (((n + 1 : Nat) : Int) < 10) = true := decide_eq_true (by omega)
      go_wp2_with fail
      refine HT.out.mono ?_
      rintro e w4 ⟨rfl, hS4, hB4, hK4⟩
      have HM := Aside0.mk (state_mix w1.heap.size (partL (turnF s) 16) [2, 3, 1, 1] w w4 (partL_length _ _) HB1.out.size byE_rng hS4 hB4)
      have HN4 := Aside0.mk (Kd.N_keep HNr.out hK4 (fun _ h => h))
      clear hS4 hB4 hK4 HT HNr HSr HBr
      go_wp2_with fail
      refine HM.out.mono ?_
      rintro e w5 ⟨rfl, hS5, hB5, hK5⟩
      have HN5 := Aside0.mk (Kd.N_keep HN4.out hK5 (fun _ h => h))
      obtain ⟨row, Ak, ck, HKr, hck, HRk⟩ := key_row HN5.out (n + 1) hlk2
      have HA := Aside0.mk (state_add w1.heap.size _ Ak ck row w w5 (partL_length _ _) (by rw [HKr.out]; exact HO.out.2 (n + 1) (by omega)) HB1.out.size hS5 hB5 HRk.out)
      have hck' : w5.cell? ⟨ad.block, ad.off + (n + 1), none⟩ = some (.slice Ak row.length ck) := by simpa [Addr.add] using hck
      clear hS5 hB5 hK5 HM HN4 HRk hck
      go_wp2_with fail
      refine HA.out.mono ?_
      rintro e w6 ⟨rfl, hS6, hB6, hK6⟩
      have HN6 := Aside0.mk (Kd.N_keep HN5.out hK6 (fun _ h => h))
      have HS6 := Aside0.mk hS6
      have HB6 := Aside0.mk hB6
      clear hS6 hB6 hK6 HA HN5 hck'
      go_wp2
      go_roundw
      case rel => exact ⟨n + 1, by omega, by go_num, ⟨by rw [encR, ← HEQ.out, stepE, if_pos (by omega), ← HKr.out]; exact HS6.out⟩, HB6, HN6⟩
      case measure => simp [intOf]; omega
    · have h9d : decide (((n + 1 : Nat) : Int) < 10) = false := decide_eq_false (by omega)
      go_wp2_with fail
      refine HT.out.mono ?_
      rintro e w5 ⟨rfl, hS5, hB5, hK5⟩
      have HN5 := Aside0.mk (Kd.N_keep HNr.out hK5 (fun _ h => h))
      obtain ⟨row, Ak, ck, HKr, hck, HRk⟩ := key_row HN5.out (n + 1) hlk2
      have HA := Aside0.mk (state_add w1.heap.size _ Ak ck row w w5 (partL_length _ _) (by rw [HKr.out]; exact HO.out.2 (n + 1) (by omega)) HB1.out.size hS5 hB5 HRk.out)
      have hck' : w5.cell? ⟨ad.block, ad.off + (n + 1), none⟩ = some (.slice Ak row.length ck) := by simpa [Addr.add] using hck
      clear hS5 hB5 hK5 HT HNr HSr HBr HRk hck
      go_wp2_with fail
      refine HA.out.mono ?_
      rintro e w6 ⟨rfl, hS6, hB6, hK6⟩
      have HN6 := Aside0.mk (Kd.N_keep HN5.out hK6 (fun _ h => h))
      have HS6 := Aside0.mk hS6
      have HB6 := Aside0.mk hB6
      clear hS6 hB6 hK6 HA HN5 hck'
      go_wp2
      go_roundw
      case rel => exact ⟨n + 1, by omega, by go_num, ⟨by rw [encR, ← HEQ.out, stepE, if_neg (by omega), ← HKr.out]; exact HS6.out⟩, HB6, HN6⟩
      case measure => simp [intOf]; omega
  · have HE := Aside0.mk (show n = 10 by omega)
    have hle : ¬ ((n + 1 : Nat) : Int) ≤ 10 := by omega
    go_wp2_with fail
    go_ret2
    have hS := HSr.out
    rw [HE.out] at hS
    exact ⟨_, rfl, HB1.out.size, hS, HBr.out⟩
theorem encrypt_ok (k : Nat) (A0 : Option Addr) (c0 : Nat) (l0 : List Int) (A1 : Option Addr) (c1 : Nat) (l1 : List Int) (ks : List (List Int)) (w : World) (hr0 : Kd.C (Kd.int .u8) w A0 l0.length l0) (hc0 : l0.length ≤ c0) (hr1 : Kd.C (Kd.int .u8) w A1 l1.length l1) (hc1 : l1.length ≤ c1)
 (h : aes_Keys.f k l0 = some (ks, none)) (hl : l1.length = 16) (hk : okK ks = true) :
 Calls Try.prog 20 #[.slice A0 l0.length c0, .slice A1 l1.length c1] w fun e w' => ∃ v0_ : Value, e = .returned (.tuple #[v0_, .nilIface]) ∧ Kd.V (Kd.int .u8) 5 w' w.heap.size (fun k_ => (w.heap.size ≤ k_)) v0_ (encR ks l1 10) ∧ Below w.heap.size w w' := by
 refine (encrypt_st k A0 c0 l0 A1 c1 l1 ks w hr0 hc0 hr1 hc1 h hl hk).mono ?_
 rintro e w' ⟨g, rfl, hg, hS, hB⟩
 have hln := encR_length ks l1 hl 10
 have hv := Kd.V_mk (d := Kd.int .u8) (e := 5) (base := w.heap.size) (W := w') (ok := fun k_ => w.heap.size ≤ k_) (xs := encR ks l1 10) (A := some ⟨g, 0, none⟩) (c := 16) (by omega) (fun W' hW =>
  StAt.C (show StAt W' g _ from (hW g hg (blk_lt hS)).trans hS) hln)
 rw [hln] at hv
 exact ⟨_, rfl, hv, hB⟩

theorem encrypt_err (k : Nat) (A0 : Option Addr) (c0 : Nat) (l0 : List Int) (A1 : Option Addr) (c1 : Nat) (l1 : List Int) (r : List (List Int)) (r2 : Option Int) (w : World) (hr0 : Kd.C (Kd.int .u8) w A0 l0.length l0) (hc0 : l0.length ≤ c0)
 (h : aes_Keys.f k l0 = some (r, r2)) (hl : r2 = none → l1.length ≠ 16) :
 Calls Try.prog 20 #[.slice A0 l0.length c0, .slice A1 l1.length c1] w fun e w' => e = .returned (.tuple #[.slice none 0 0, .iface 31 (.int .i64 1)]) ∧ Below w.heap.size w w' := by
 have HB0 := Aside0.mk (both_err k A0 c0 l0 A1 c1 l1 r r2 w hr0 hc0 h hl)
 clear hr0 hc0 h hl
 have hz55 := zero55
 have hu28 := Try.underlying28
 have hu31 := Try.underlying31
 go_enter Try.func20, Try.ntmps20
 go_wp2_with fail
 refine HB0.out.mono ?_
 rintro e w1 ⟨rfl, hb1⟩
 have HB1 := Aside0.mk hb1
 clear hb1 HB0
 go_wp2_with (refine wpList_store_rowTo rfl 55 _ _ rfl rfl w1.heap.size (arrV 16 .u8 []) rfl rfl 55 _ (heap_alloc_last w1 _) (by kernel_rfl) rfl (arrV_one _ _ _) ?_)
 go_ret2
 exact ⟨rfl, below_setRow (HB1.out.alloc HB1.out.size _) HB1.out.size _⟩
theorem aes_Encrypt.calls (k : Nat) (A0 : Option Addr) (c0 : Nat) (l0 : List Int) (A1 : Option Addr) (c1 : Nat) (l1 : List Int) (r1 : List Int) (r2 : Option Int) (w : World) (hr0 : Kd.C (Kd.int .u8) w A0 l0.length l0) (hc0 : l0.length ≤ c0) (hr1 : Kd.C (Kd.int .u8) w A1 l1.length l1) (hc1 : l1.length ≤ c1) (h : aes_Encrypt.f k l0 l1 = some (r1, r2)) :
 Calls Try.prog 20 #[.slice A0 l0.length c0, .slice A1 l1.length c1] w fun e w' => ∃ v0_ : Value, e = .returned (.tuple #[v0_, errW r2]) ∧ Kd.V (Kd.int .u8) 5 w' w.heap.size (fun k_ => (w.heap.size ≤ k_)) v0_ r1 ∧ Below w.heap.size w w' := by
 unfold aes_Encrypt.f at h
 obtain ⟨⟨ks, e2⟩, hk, h⟩ := Option.bind_eq_some_iff.mp h
 have hbad : (some (([] : List Int), (some 1 : Option Int)) = some (r1, r2)) → (e2 = none → l1.length ≠ 16) → Calls Try.prog 20 #[.slice A0 l0.length c0, .slice A1 l1.length c1] w fun e w' => ∃ v0_ : Value, e = .returned (.tuple #[v0_, errW r2]) ∧ Kd.V (Kd.int .u8) 5 w' w.heap.size (fun k_ => (w.heap.size ≤ k_)) v0_ r1 ∧ Below w.heap.size w w' := by
  intro he hl
  injection he with he
  injection he with h1 h2
  subst h1 h2
  exact (encrypt_err k A0 c0 l0 A1 c1 l1 ks e2 w hr0 hc0 hk hl).mono fun e w' hh => ⟨_, hh.1, Kd.V_nil _ _ _ _ _, hh.2⟩
 cases e2 with
 | some c => exact hbad (by simpa using h) (by simp)
 | none =>
  simp only [Option.isNone_none, if_true] at h
  by_cases hl : l1.length = 16
  · rw [if_pos hl] at h
    by_cases ho : okK ks = true
    · rw [if_pos ho] at h
      injection h with h
      injection h with h1 h2
      subst h1 h2
      exact encrypt_ok k A0 c0 l0 A1 c1 l1 ks w hr0 hc0 hr1 hc1 hk hl ho
    · rw [if_neg ho] at h
      cases h
  · rw [if_neg hl] at h
    exact hbad h (fun _ => hl)

end Go.Proofs.Ytpcdkfbngoagnaa.C

-- LEAN
