-- PRINTED by print.py (a twelfth state) out of the translation. Not trusted: Lean checks it.
import Derived.Test.YtpcdkfbngoagnaaCx0
import Derived.Test.YtpcdkfbngoagnaaCx5
namespace Go.Proofs.Ytpcdkfbngoagnaa.C
open Go.RowKit Go.Proofs.YtpcdkfbngoagnaaW.PrintWords Go.Proofs.YtpcdkfbngoagnaaW.PrintLast Go.Proofs.YtpcdkfbngoagnaaW.PrintMore
attribute [local go_sem] max2_int min2_int max_two min_two max_three min_three max_four min_four   -- for this text's walks alone
set_option linter.unusedVariables false
set_option linter.unusedSimpArgs false

-- OWN FILE
/-! ### aes_both: function 34 -/
theorem rangeAt_st (W : World) (b o : Nat) (l : List Int) (hl : l.length = 16) (hc : Kd.C (Kd.int .u8) W (some ⟨b, o, none⟩) l.length l) (cs : List Value) (hcs : cs = (arrV 16 .u8 l).toList) : W.rangeAt b o cs := by
 intro j v hj
 subst hcs
 have hj16 : j < 16 := by
  rcases Nat.lt_or_ge j 16 with h | h
  · exact h
  · rw [List.getElem?_eq_none (by simp [arrV]; omega)] at hj
    cases hj
 rw [Array.getElem?_toList, arrV_get 16 .u8 l j hj16] at hj
 obtain ⟨a2, e2, h2⟩ := Kd.at_int hc (j : Int) (by omega) (by omega)
 injection e2 with e2
 subst e2
 simp only [Int.toNat_natCast, rd, Addr.add_mid] at h2
 rw [h2]
 exact hj
theorem there_st (W : World) (g : Nat) (s : List Int) (h : StAt W g s) : W.there g 0 16 := fun j hj => by
 refine ⟨?_, blk_frozen h _⟩
 rw [Nat.zero_add, StAt.cell h j hj]
 rfl
theorem setCells_st (W : World) (g : Nat) (s l : List Int) (h : StAt W g s) : StAt (W.setCells g 0 (arrV 16 .u8 l).toList) g l ∧ W.setCells g 0 (arrV 16 .u8 l).toList = W.setRow g (arrV 16 .u8 l) := by
 have h1 := run_storeVar_mid (P := Try.prog) W g 0 55 (arrV 16 .u8 l) (by rw [arrV_size]; exact there_st W g s h) (by rw [arrV_size]; kernel_rfl) (arrV_one _ _ _)
 have h2 := run_storeVar_row (P := Try.prog) W g 55 55 _ (arrV 16 .u8 l) h (by rw [arrV_size]; kernel_rfl) (by rw [arrV_size, arrV_size]) (arrV_one _ _ _)
 have h3 : W.setCells g 0 (arrV 16 .u8 l).toList = W.setRow g (arrV 16 .u8 l) := by
  rw [h1] at h2
  injection h2
 exact ⟨by rw [h3]; exact setRow_heap _ _ _ _ _ _ h, h3⟩
set_option maxHeartbeats 2000000 in
theorem both_ok (k : Nat) (A0 : Option Addr) (c0 : Nat) (l0 : List Int) (A1 : Option Addr) (c1 : Nat) (l1 : List Int) (r : List (List Int)) (w : World) (hr0 : Kd.C (Kd.int .u8) w A0 l0.length l0) (hc0 : l0.length ≤ c0) (hr1 : Kd.C (Kd.int .u8) w A1 l1.length l1) (hc1 : l1.length ≤ c1)
 (h : aes_Keys.f k l0 = some (r, none)) (hl : l1.length = 16) :
 Calls Try.prog 34 #[.slice A0 l0.length c0, .slice A1 l1.length c1] w fun e w' => ∃ v0_ : Value, e = .returned (.tuple #[v0_, .agg (arrV 16 .u8 l1), .nilIface]) ∧ Kd.N (Kd.slice 5 (Kd.int .u8)) 25 w' w.heap.size (fun k_ => (w.heap.size ≤ k_)) v0_ r ∧ Below w.heap.size w w' := by
 have HR1 := Aside0.mk hr1
 have HL := Aside0.mk hl
 have HK := Aside0.mk (fun (W : World) (hb : Below w.heap.size w W) => aes_Keys.calls k A0 c0 l0 r none W (Kd.C_below hr0 hb) hc0 h)
 clear hr0 hr1 h hl hc0 hc1
 have hz55 := zero55
 have hu28 := Try.underlying28
 go_enter Try.func34, Try.ntmps34
 go_wp2_with fail
 refine (HK.out _ ((Below.refl _ _).alloc (Nat.le_refl _) _)).mono ?_
 rintro e w1 ⟨v0, rfl, hN, hb1⟩
 simp only [errW_none]
 have HN := Aside0.mk hN
 have HB := Aside0.mk (below_then ((Below.refl _ w).alloc (Nat.le_refl _) _) (by simp) hb1)
 have HS := Aside0.mk (show StAt w1 w.heap.size [] from blk_below (heap_alloc_last w _) hb1)
 clear hN hb1 HK
 have hlen : ((l1.length : Int) != 16) = false := by have := HL.out; simp; omega
 go_wp2_with fail
 obtain ⟨ad, rfl, _⟩ := Kd.at_int HR1.out 0 (by omega) (by have := HL.out; omega)
 have hst0 : ad.spot = none := by
  have h0 := ‹w.cell? (ad.add (Int.toNat 0)) = some _›
  simp only [Int.toNat_zero, Addr.add, if_true, World.cell?] at h0
  cases hsp : ad.spot with
  | none => rfl
  | some q => rw [hsp] at h0; split at h0 <;> simp at h0
 have hlt0 := World.block_lt_of_cell? _ _ ‹w.cell? (ad.add (Int.toNat 0)) = some _›
 obtain ⟨ab, ao, asp⟩ := ad
 obtain rfl : asp = none := hst0
 obtain ⟨cs, hcs⟩ : ∃ cs : List Value, cs = (arrV 16 .u8 l1).toList := ⟨_, rfl⟩
 have hne : ab ≠ w.heap.size := by simp [Addr.add] at hlt0; omega
 have hcl : cs.length = 16 := by rw [hcs]; simp [arrV]
 have hone : ∀ v ∈ cs, v.oneCell' = true := by
  intro v hv
  have := arrV_one 16 .u8 l1
  rw [Array.all_eq_true_iff_forall_mem] at this
  exact this v (by rw [hcs] at hv; simpa using hv)
 have hrg : w1.rangeAt ab ao cs := rangeAt_st _ _ _ _ HL.out (Kd.C_below HR1.out HB.out) _ hcs
 have hth : w1.there w.heap.size 0 16 := there_st _ _ _ HS.out
 have hu := Try.underlying55
 have hi : (Try.prog.info? 55).map (·.size) = some cs.length := by rw [hcl]; kernel_rfl
 have hap : ab ≠ w.heap.size ∨ ao + cs.length ≤ 0 ∨ 0 + cs.length ≤ ao := .inl hne
 have HCS := Aside0.mk hcs
 clear hcs
 have haa := fun (W : World) => run_arrayAt_st W (some ⟨ab, ao, none⟩) l1.length c1 (by have := HL.out; omega)
 go_region_held3 (fun W => W.rangeAt ab ao cs ∧ W.there w.heap.size 0 16) (go_keep_ranges) (fail)
 obtain ⟨hS2, _⟩ := setCells_st w1.drew w.heap.size [] l1 HS.out
 rw [← HCS.out] at hS2
 have hres := run_loadVar_row (P := Try.prog) (w1.drew.setCells w.heap.size 0 cs) w.heap.size 55 55 _ (0, 0) _ hS2 Try.underlying55 rfl (by rw [arrV_size]; kernel_rfl)
 have hE : w1.drew.setCells w.heap.size 0 cs = w1.drew.setRow w.heap.size (arrV 16 .u8 l1) := by rw [HCS.out]; exact (setCells_st w1.drew w.heap.size [] l1 HS.out).2
 have HE := Aside0.mk hE
 have HRES := Aside0.mk hres
 clear hE hres hS2 hrg hth hone hi haa hap
 go_wp2
 refine bodyPost_ret (v := .tuple #[v0, .agg (arrV 16 .u8 l1), .nilIface]) (by simp [results, Try.results34, asAddr, HRES.out]) rfl ⟨v0, rfl, ?_, ?_⟩
 · rw [HE.out]
   exact Kd.N_mono (Kd.N_lower (Kd.N_step (w1 := w1.drew.setRow w.heap.size (arrV 16 .u8 l1)) HN.out (fun k hk _ => setRow_other w1.drew _ k _ (by simp at hk; omega))) (by simp)) (fun k hk => by simp at hk; omega)
 · rw [HE.out]
   exact below_setRow HB.out.drew (Nat.le_refl _) _

set_option maxHeartbeats 2000000 in
theorem both_err (k : Nat) (A0 : Option Addr) (c0 : Nat) (l0 : List Int) (A1 : Option Addr) (c1 : Nat) (l1 : List Int) (r : List (List Int)) (r2 : Option Int) (w : World) (hr0 : Kd.C (Kd.int .u8) w A0 l0.length l0) (hc0 : l0.length ≤ c0)
 (h : aes_Keys.f k l0 = some (r, r2)) (hl : r2 = none → l1.length ≠ 16) :
 Calls Try.prog 34 #[.slice A0 l0.length c0, .slice A1 l1.length c1] w fun e w' => e = .returned (.tuple #[.slice none 0 0, .agg (arrV 16 .u8 []), .iface 31 (.int .i64 1)]) ∧ Below w.heap.size w w' := by
 have HL := Aside0.mk hl
 have HK := Aside0.mk (fun (W : World) (hb : Below w.heap.size w W) => aes_Keys.calls k A0 c0 l0 r r2 W (Kd.C_below hr0 hb) hc0 h)
 clear hr0 h hl hc0
 have hz55 := zero55
 have hbd : ∀ W, (Instr.build 55 #[]).run Try.prog W = .ok (.agg (arrV 16 .u8 [])) W := fun _ => by kernel_rfl
 have hu28 := Try.underlying28
 have hu31 := Try.underlying31
 go_enter Try.func34, Try.ntmps34
 go_wp2_with fail
 refine (HK.out _ ((Below.refl _ _).alloc (Nat.le_refl _) _)).mono ?_
 rintro e w1 ⟨v0, rfl, hN, hb1⟩
 have HB := Aside0.mk (below_then ((Below.refl _ w).alloc (Nat.le_refl _) _) (by simp) hb1)
 have HS := Aside0.mk (show StAt w1 w.heap.size [] from blk_below (heap_alloc_last w _) hb1)
 clear hN hb1 HK
 have HRES := Aside0.mk (run_loadVar_row (P := Try.prog) (w1.setRow w.heap.size (arrV 16 .u8 [])) w.heap.size 55 55 _ (0, 0) _ (setRow_heap _ _ _ _ _ _ HS.out) Try.underlying55 rfl (by rw [arrV_size]; kernel_rfl))
 cases r2 with
 | none =>
  simp only [errW_none]
  have hlen : ((l1.length : Int) != 16) = true := by have := HL.out rfl; simp; omega
  go_wp2_with (refine wpList_store_rowTo rfl 55 _ _ rfl rfl w.heap.size (arrV 16 .u8 []) rfl rfl 55 _ HS.out (by kernel_rfl) rfl (arrV_one _ _ _) ?_)
  exact bodyPost_ret (v := .tuple #[.slice none 0 0, .agg (arrV 16 .u8 []), .iface 31 (.int .i64 1)]) (by simp [results, Try.results34, asAddr, HRES.out]) rfl ⟨rfl, below_setRow HB.out (Nat.le_refl _) _⟩
 | some c =>
  simp only [errW_some]
  go_wp2_with (refine wpList_store_rowTo rfl 55 _ _ rfl rfl w.heap.size (arrV 16 .u8 []) rfl rfl 55 _ HS.out (by kernel_rfl) rfl (arrV_one _ _ _) ?_)
  exact bodyPost_ret (v := .tuple #[.slice none 0 0, .agg (arrV 16 .u8 []), .iface 31 (.int .i64 1)]) (by simp [results, Try.results34, asAddr, HRES.out]) rfl ⟨rfl, below_setRow HB.out (Nat.le_refl _) _⟩

end Go.Proofs.Ytpcdkfbngoagnaa.C

-- LEAN
