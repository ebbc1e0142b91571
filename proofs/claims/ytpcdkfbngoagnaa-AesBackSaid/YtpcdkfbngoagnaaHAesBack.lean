import Derived.Test.YtpcdkfbngoagnaaCx13
import Derived.Test.YtpcdkfbngoagnaaCx18
import Derived.ChangeKeysEq
namespace Go.Proofs.Ytpcdkfbngoagnaa.C
open Go.RowKit Go.Proofs.YtpcdkfbngoagnaaW.PrintWords Go.Proofs.YtpcdkfbngoagnaaW.PrintLast Go.Proofs.YtpcdkfbngoagnaaW.PrintMore
set_option linter.unusedVariables false
set_option linter.unusedSimpArgs false

/-- What a block of sixteen bytes holds, read as a slice. -/
theorem blkC {W : World} {g : Nat} {t : TypeId} {s : List Int} (h : W.heap[g]? = some (.cells (arrV 16 .u8 s) t (0, 0))) (hs : s.length = 16) : Kd.C (Kd.int .u8) W (some ⟨g, 0, none⟩) s.length s := by
  refine Kd.C_of_reads (enc := Value.int .u8) (d := 0) (h1 := fun _ => rfl) ⟨rfl, by omega, fun _ => ⟨_, rfl, fun j hj => ?_⟩⟩
  rw [Addr.add_mid, Nat.zero_add]
  exact (blk_cell h j).trans (arrV_get 16 .u8 s j (by omega))
theorem run_loadAt_39 (W : World) (ad : Addr) (l : List Int) (hl : l.length = 16) (hc : Kd.C (Kd.int .u8) W (some ad) l.length l) : (Instr.loadAt 39 (.pointer (some ad))).run Try.prog W = .ok (.agg (arrV 16 .u8 l)) W := by
  have h0 := run_loadCells_list (P := Try.prog) W ad (arrV 16 .u8 l).toList (fun j v hj => by
    have hj16 : j < 16 := by
      rcases Nat.lt_or_ge j 16 with h | h
      · exact h
      · rw [List.getElem?_eq_none (by simp [arrV]; omega)] at hj
        cases hj
    rw [Array.getElem?_toList, arrV_get 16 .u8 l j hj16] at hj
    obtain ⟨a2, e2, h2⟩ := Kd.at_int hc (j : Int) (by omega) (by omega)
    injection e2 with e2
    subst e2
    simp only [Int.toNat_natCast, rd] at h2
    rw [h2]
    exact hj)
  have hn : (arrV 16 .u8 l).toList.length = 16 := by simp [arrV]
  rw [hn] at h0
  have hs : (sizeOf 39).run Try.prog W = .ok 16 W := by kernel_rfl
  have ha : (isAgg 39).run Try.prog W = .ok true W := by kernel_rfl
  simp only [Array.toArray_toList] at h0
  simp [Instr.loadAt, Instr.sureAddr, loadVar, Sem.run_bind, ha, hs, h0]
theorem eql_u8 (W : World) (d : Nat) (a b : Int) : (Op.equalIn (d + 1) 5 (.int .u8 a) (.int .u8 b)).run Try.prog W = .ok (a == b) W := by
  simp [Op.equalIn, Sem.run_bind, run_underlying Try.underlying5]
theorem eqItems_u8 (W : World) (d : Nat) (A B : List Int) : ∀ is : List Nat, (∀ i ∈ is, i < 16) → (Op.eqItems (d + 1) 5 1 (arrV 16 .u8 A) (arrV 16 .u8 B) is).run Try.prog W = .ok (is.all fun i => A.getD i 0 == B.getD i 0) W
  | [], _ => by simp [Op.eqItems]
  | i :: is, h => by
    have hi := h i (by simp)
    have p1 : (part 5 (arrV 16 .u8 A) (i * 1)).run Try.prog W = .ok (.int .u8 (A.getD i 0)) W := run_part_plain W (by kernel_rfl) (by rw [Nat.mul_one]; exact arrV_get 16 .u8 A i hi)
    have p2 : (part 5 (arrV 16 .u8 B) (i * 1)).run Try.prog W = .ok (.int .u8 (B.getD i 0)) W := run_part_plain W (by kernel_rfl) (by rw [Nat.mul_one]; exact arrV_get 16 .u8 B i hi)
    have ih := eqItems_u8 W d A B is (fun k hk => h k (by simp [hk]))
    simp only [Op.eqItems, Sem.run_bind, p1, p2, eql_u8, Result.andThen_ok]
    cases hab : A.getD i 0 == B.getD i 0
    · simp only [List.all_cons, hab]
      simp
    · simp only [List.all_cons, hab]
      simpa using ih
theorem all_eq (A B : List Int) (hA : A.length = 16) (hB : B.length = 16) : ((List.range 16).all fun i => A.getD i 0 == B.getD i 0) = (A == B) := by
  rw [Bool.eq_iff_iff, List.all_eq_true, beq_iff_eq]
  constructor
  · intro h
    refine List.ext_getElem (by omega) (fun i h1 h2 => ?_)
    have h3 := h i (List.mem_range.mpr (by omega))
    rw [beq_iff_eq, List.getD_eq_getElem?_getD, List.getD_eq_getElem?_getD, List.getElem?_eq_getElem h1, List.getElem?_eq_getElem h2] at h3
    exact h3
  · rintro rfl i _
    simp
theorem run_eql_arr39 (W : World) (A B : List Int) (hA : A.length = 16) (hB : B.length = 16) : (binOp .eql 39 (.agg (arrV 16 .u8 A)) (.agg (arrV 16 .u8 B))).run Try.prog W = .ok (.bool (A == B)) W := by
  have h1 : ∀ d, (Op.equalIn (d + 1 + 1) 39 (.agg (arrV 16 .u8 A)) (.agg (arrV 16 .u8 B))).run Try.prog W = .ok (A == B) W := by
    intro d
    obtain ⟨i, hi⟩ : ∃ i, Try.prog.info? 5 = some i := ⟨_, rfl⟩
    rw [run_equalIn_array (w := W) (d + 1) (arrV 16 .u8 A) (arrV 16 .u8 B) Try.underlying39 hi, show Try.prog.cellsOf 5 = 1 from by kernel_rfl, eqItems_u8 W d A B _ (fun i hi => List.mem_range.mp hi), all_eq A B hA hB]
  have h2 : (Op.equal 39 (.agg (arrV 16 .u8 A)) (.agg (arrV 16 .u8 B))).run Try.prog W = .ok (A == B) W := h1 _
  simp [binOp, Sem.run_bind, h2]
theorem run_eqlg_arr39 (W : World) (A B : List Int) (hA : A.length = 16) (hB : B.length = 16) (x y : Operand) : (do eqGuard .eql 39 x y (.agg (arrV 16 .u8 A)) (.agg (arrV 16 .u8 B)); binOp .eql 39 (.agg (arrV 16 .u8 A)) (.agg (arrV 16 .u8 B)) : Sem Value).run Try.prog W = .ok (.bool (A == B)) W := by
  have hg : Try.prog.eqGuardType Try.prog.depth 39 = false := by kernel_rfl
  have h0 : (eqGuard .eql 39 x y (.agg (arrV 16 .u8 A)) (.agg (arrV 16 .u8 B))).run Try.prog W = .ok () W := by
    simp [eqGuard, Sem.run_bind, hg]
  simp [Sem.run_bind, h0, run_eql_arr39 W A B hA hB]
theorem enc_call (k : Nat) (K A X : List Int) (h : aes_Encrypt.f k K A = some (X, none)) (W : World) (a0 a1 : Option Addr) (c0 c1 n0 n1 : Nat) (e0 : n0 = K.length) (e1 : n1 = A.length)
    (ha : Kd.C (Kd.int .u8) W a0 K.length K) (hb : Kd.C (Kd.int .u8) W a1 A.length A) (hc0 : n0 ≤ c0) (hc1 : n1 ≤ c1) :
    Calls Try.prog 20 #[.slice a0 n0 c0, .slice a1 n1 c1] W fun e w' => ∃ a' c', e = .returned (.tuple #[.slice a' X.length c', .nilIface]) ∧ Aside0 (X.length ≤ c') ∧ Aside0 (Kd.C (Kd.int .u8) w' a' X.length X) ∧ Below W.heap.size W w' := by
  subst e0 e1
  refine (aes_Encrypt.calls k a0 c0 K a1 c1 A X none W ha hc0 hb hc1 h).mono ?_
  rintro e w' ⟨v, rfl, hV, hB⟩
  obtain ⟨a', c', rfl⟩ := Kd.V_slice hV
  exact ⟨a', c', rfl, ⟨(Kd.V_reads' hV).2.1⟩, ⟨(Kd.V_reads' hV).2.2⟩, hB⟩
theorem dec_call (k : Nat) (K A X : List Int) (h : aes_Decrypt.f k K A = some (X, none)) (W : World) (a0 a1 : Option Addr) (c0 c1 n0 n1 : Nat) (e0 : n0 = K.length) (e1 : n1 = A.length)
    (ha : Kd.C (Kd.int .u8) W a0 K.length K) (hb : Kd.C (Kd.int .u8) W a1 A.length A) (hc0 : n0 ≤ c0) (hc1 : n1 ≤ c1) :
    Calls Try.prog 22 #[.slice a0 n0 c0, .slice a1 n1 c1] W fun e w' => ∃ a' c', e = .returned (.tuple #[.slice a' X.length c', .nilIface]) ∧ Aside0 (X.length ≤ c') ∧ Aside0 (Kd.C (Kd.int .u8) w' a' X.length X) ∧ Below W.heap.size W w' := by
  subst e0 e1
  refine (aes_Decrypt.calls k a0 c0 K a1 c1 A X none W ha hc0 hb hc1 h).mono ?_
  rintro e w' ⟨v, rfl, hV, hB⟩
  obtain ⟨a', c', rfl⟩ := Kd.V_slice hV
  exact ⟨a', c', rfl, ⟨(Kd.V_reads' hV).2.1⟩, ⟨(Kd.V_reads' hV).2.2⟩, hB⟩
/-- A block of sixteen bytes behind a call that keeps what stood. -/
theorem blk_kept {W w' : World} {g : Nat} {o : Obj} (h : W.heap[g]? = some o) (hB : Below W.heap.size W w') : w'.heap[g]? = some o := blk_below h hB

theorem quietAt_val {P : Program} {o : Oper} {a : Act} {C : World → Prop} {W : World} {v : Value} {s : Sem Value} (he : execOp a.eval o = (do let x ← s; pure (Next.value x))) (h : s.run P W = .ok v W) : o.quietAt P a C W v := by
  unfold Oper.quietAt
  rw [he]
  simp [Sem.run_bind, h, Oper.quietUpon]
set_option maxHeartbeats 1000000 in
theorem aesBack_calls (k : Nat) (K A B X Y V : List Int) (hK : K.length = 16) (hA : A.length = 16) (hB : B.length = 16) (hX : X.length = 16) (h0 : charterlaw03_up.f k = some true)
    (h1 : aes_Encrypt.f k K A = some (X, none)) (h2 : aes_Encrypt.f k K B = some (Y, none)) (h3 : aes_Decrypt.f k K X = some (A, none)) (h4 : aes_Decrypt.f k K B = some (V, none)) (h5 : aes_Encrypt.f k K V = some (B, none))
    (hxy : ((strOfNums X).toList == (strOfNums Y).toList) = (A == B)) (w : World) :
    Calls Try.prog 7 #[.agg (arrV 16 .u8 K), .agg (arrV 16 .u8 A), .agg (arrV 16 .u8 B)] w fun e w' => e = .returned (.bool true) ∧ Below w.heap.size w w' := by
  have H0 := Aside0.mk h0
  have H1 := Aside0.mk h1
  have H2 := Aside0.mk h2
  have H3 := Aside0.mk h3
  have H4 := Aside0.mk h4
  have H5 := Aside0.mk h5
  have HK := Aside0.mk hK
  have HA := Aside0.mk hA
  have HB := Aside0.mk hB
  have HX := Aside0.mk hX
  have HXY := Aside0.mk hxy
  clear h0 h1 h2 h3 h4 h5 hK hA hB hX hxy
  go_enter Try.func7, Try.ntmps7
  go_wp2_with fail
  refine (charterlaw03_up.calls k true _ H0.out).mono ?_
  rintro e w1 ⟨rfl, hb⟩
  have hk0 : (((w.alloc (.cells (arrV 16 .u8 K) 39)).alloc (.cells (arrV 16 .u8 A) 39)).alloc (.cells (arrV 16 .u8 B) 39)).heap[w.heap.size]? = some (.cells (arrV 16 .u8 K) 39 (0, 0)) := blk_alloc (blk_alloc (heap_alloc_last w _) _) _
  have ha0 : (((w.alloc (.cells (arrV 16 .u8 K) 39)).alloc (.cells (arrV 16 .u8 A) 39)).alloc (.cells (arrV 16 .u8 B) 39)).heap[w.heap.size + 1]? = some (.cells (arrV 16 .u8 A) 39 (0, 0)) := by
    have h := heap_alloc_last (w.alloc (.cells (arrV 16 .u8 K) 39)) (.cells (arrV 16 .u8 A) 39)
    rw [World.size_alloc] at h
    exact blk_alloc h _
  have hb0 : (((w.alloc (.cells (arrV 16 .u8 K) 39)).alloc (.cells (arrV 16 .u8 A) 39)).alloc (.cells (arrV 16 .u8 B) 39)).heap[w.heap.size + 2]? = some (.cells (arrV 16 .u8 B) 39 (0, 0)) := by
    have h := heap_alloc_last ((w.alloc (.cells (arrV 16 .u8 K) 39)).alloc (.cells (arrV 16 .u8 A) 39)) (.cells (arrV 16 .u8 B) 39)
    rw [World.size_alloc, World.size_alloc] at h
    exact h
  have hB0 : Below w.heap.size w (((w.alloc (.cells (arrV 16 .u8 K) 39)).alloc (.cells (arrV 16 .u8 A) 39)).alloc (.cells (arrV 16 .u8 B) 39)) := (((Below.refl _ _).alloc (Nat.le_refl _) _).alloc (by simp) _).alloc (by simp; omega) _
  have GK := Aside0.mk (blk_kept hk0 hb)
  have GA := Aside0.mk (blk_kept ha0 hb)
  have GB := Aside0.mk (blk_kept hb0 hb)
  have BB := Aside0.mk (below_step hB0 hb)
  clear hk0 ha0 hb0 hB0 hb
  go_wp2_with fail
  go_region_with (go_at_call 20; refine (enc_call k K A X H1.out _ _ _ _ _ _ _ HK.out.symm HA.out.symm (by first | exact blkC GK.out HK.out | exact Kd.C_drew (blkC GK.out HK.out)) (by first | exact blkC GA.out HA.out | exact Kd.C_drew (blkC GA.out HA.out)) (by decide) (by decide)).mono ?_; rintro e w2 ⟨ax, cx, rfl, LX, CX2, hb2⟩)
  have GK2 := Aside0.mk (blk_kept (W := w1.drew) GK.out hb2)
  have GA2 := Aside0.mk (blk_kept (W := w1.drew) GA.out hb2)
  have GB2 := Aside0.mk (blk_kept (W := w1.drew) GB.out hb2)
  have BB2 := Aside0.mk (below_step (below_drew1 BB.out) hb2)
  clear GK GA GB BB  hb2
  try go_wp2_with fail
  go_region_with (go_at_call 20; refine (enc_call k K B Y H2.out _ _ _ _ _ _ _ HK.out.symm HB.out.symm (by first | exact blkC GK2.out HK.out | exact Kd.C_drew (blkC GK2.out HK.out)) (by first | exact blkC GB2.out HB.out | exact Kd.C_drew (blkC GB2.out HB.out)) (by decide) (by decide)).mono ?_; rintro e w3 ⟨ay, cy, rfl, LY, CY3, hb3⟩)
  have GK3 := Aside0.mk (blk_kept (W := w2.drew) GK2.out hb3)
  have GA3 := Aside0.mk (blk_kept (W := w2.drew) GA2.out hb3)
  have GB3 := Aside0.mk (blk_kept (W := w2.drew) GB2.out hb3)
  have BB3 := Aside0.mk (below_step (below_drew1 BB2.out) hb3)
  have CX3 := Aside0.mk (Kd.C_below (Kd.C_drew CX2.out) hb3)
  clear GK2 GA2 GB2 BB2 CX2 hb3
  try go_wp2_with fail
  refine (dec_call k K X A H3.out _ _ _ _ _ _ _ HK.out.symm rfl (by first | exact blkC GK3.out HK.out | exact Kd.C_drew (blkC GK3.out HK.out)) (by first | exact CX3.out | exact Kd.C_drew CX3.out) (by decide) LX.out).mono ?_
  rintro e w4 ⟨au, cu, rfl, LU, CU4, hb4⟩
  have GK4 := Aside0.mk (blk_kept (W := w3) GK3.out hb4)
  have GA4 := Aside0.mk (blk_kept (W := w3) GA3.out hb4)
  have GB4 := Aside0.mk (blk_kept (W := w3) GB3.out hb4)
  have BB4 := Aside0.mk (below_step (BB3.out) hb4)
  have CX4 := Aside0.mk (Kd.C_below (id CX3.out) hb4)
  have CY4 := Aside0.mk (Kd.C_below (id CY3.out) hb4)
  clear GK3 GA3 GB3 BB3 CX3 CY3 hb4
  try go_wp2_with fail
  go_region_with (go_at_call 22; refine (dec_call k K B V H4.out _ _ _ _ _ _ _ HK.out.symm HB.out.symm (by first | exact blkC GK4.out HK.out | exact Kd.C_drew (blkC GK4.out HK.out)) (by first | exact blkC GB4.out HB.out | exact Kd.C_drew (blkC GB4.out HB.out)) (by decide) (by decide)).mono ?_; rintro e w5 ⟨av, cv, rfl, LV, CV5, hb5⟩)
  have GK5 := Aside0.mk (blk_kept (W := w4.drew) GK4.out hb5)
  have GA5 := Aside0.mk (blk_kept (W := w4.drew) GA4.out hb5)
  have GB5 := Aside0.mk (blk_kept (W := w4.drew) GB4.out hb5)
  have BB5 := Aside0.mk (below_step (below_drew1 BB4.out) hb5)
  have CX5 := Aside0.mk (Kd.C_below (Kd.C_drew CX4.out) hb5)
  have CY5 := Aside0.mk (Kd.C_below (Kd.C_drew CY4.out) hb5)
  have CU5 := Aside0.mk (Kd.C_below (Kd.C_drew CU4.out) hb5)
  clear GK4 GA4 GB4 BB4 CX4 CY4 CU4 hb5
  try go_wp2_with fail
  refine (enc_call k K V B H5.out _ _ _ _ _ _ _ HK.out.symm rfl (by first | exact blkC GK5.out HK.out | exact Kd.C_drew (blkC GK5.out HK.out)) (by first | exact CV5.out | exact Kd.C_drew CV5.out) (by decide) LV.out).mono ?_
  rintro e w6 ⟨az, cz, rfl, LZ, CZ6, hb6⟩
  have GK6 := Aside0.mk (blk_kept (W := w5) GK5.out hb6)
  have GA6 := Aside0.mk (blk_kept (W := w5) GA5.out hb6)
  have GB6 := Aside0.mk (blk_kept (W := w5) GB5.out hb6)
  have BB6 := Aside0.mk (below_step (BB5.out) hb6)
  have CX6 := Aside0.mk (Kd.C_below (id CX5.out) hb6)
  have CY6 := Aside0.mk (Kd.C_below (id CY5.out) hb6)
  have CU6 := Aside0.mk (Kd.C_below (id CU5.out) hb6)
  have CV6 := Aside0.mk (Kd.C_below (id CV5.out) hb6)
  clear GK5 GA5 GB5 BB5 CX5 CY5 CU5 CV5 hb6
  go_wp2_with fail
  have hcu := fun (n_ : Nat) => Kd.C_string (P := Try.prog) (c := cu) Try.underlying25 Try.underlying5 Try.underlying9 (Kd.C_drewN CU6.out n_)
  have hcz := fun (n_ : Nat) => Kd.C_string (P := Try.prog) (c := cz) Try.underlying25 Try.underlying5 Try.underlying9 (Kd.C_drewN CZ6.out n_)
  have hcx := fun (n_ : Nat) => Kd.C_string (P := Try.prog) (c := cx) Try.underlying25 Try.underlying5 Try.underlying9 (Kd.C_drewN CX6.out n_)
  have hcy := fun (n_ : Nat) => Kd.C_string (P := Try.prog) (c := cy) Try.underlying25 Try.underlying5 Try.underlying9 (Kd.C_drewN CY6.out n_)
  have hca := fun (n_ : Nat) => Kd.C_string (P := Try.prog) (n := 16) (c := 16) Try.underlying25 Try.underlying5 Try.underlying9 (show Kd.C (Kd.int .u8) (w6.drewN n_) (some ⟨w.heap.size + 1, 0, none⟩) 16 A by have h := blkC GA6.out HA.out; rw [HA.out] at h; exact Kd.C_drewN h n_)
  have hcb := fun (n_ : Nat) => Kd.C_string (P := Try.prog) (n := 16) (c := 16) Try.underlying25 Try.underlying5 Try.underlying9 (show Kd.C (Kd.int .u8) (w6.drewN n_) (some ⟨w.heap.size + 1 + 1, 0, none⟩) 16 B by have h := blkC GB6.out HB.out; rw [HB.out] at h; exact Kd.C_drewN h n_)
  have hla := fun (n_ : Nat) => run_loadAt_39 (w6.drewN n_) ⟨w.heap.size + 1, 0, none⟩ A HA.out (Kd.C_drewN (blkC GA6.out HA.out) n_)
  have hlb := fun (n_ : Nat) => run_loadAt_39 (w6.drewN n_) ⟨w.heap.size + 1 + 1, 0, none⟩ B HB.out (Kd.C_drewN (blkC GB6.out HB.out) n_)
  have heq := fun (n_ : Nat) => run_eqlg_arr39 (w6.drewN n_) A B HA.out HB.out (.tmp 90) (.tmp 91)
  have hbx := HXY.out
  refine wp_region_quiet_lit (by kernel_rfl) (by kernel_rfl) ?_
  repeat (quiet_step (fail))
  refine wpQuiet_step (fun K hK => ?_)
  rw [if_pos (by rfl)]
  refine ⟨.agg (arrV 16 .u8 A), fun W' ⟨n, hW⟩ => by subst hW; exact quietAt_val (by rfl) (hla n), hK _ ?_⟩
  clear hK K
  refine wpQuiet_step (fun K hK => ?_)
  rw [if_pos (by rfl)]
  refine ⟨.agg (arrV 16 .u8 B), fun W' ⟨n, hW⟩ => by subst hW; exact quietAt_val (by rfl) (hlb n), hK _ ?_⟩
  clear hK K
  refine wpQuiet_step (fun K hK => ?_)
  rw [if_pos (by rfl)]
  refine ⟨.bool (A == B), fun W' ⟨n, hW⟩ => by subst hW; refine quietAt_val ?_ (heq n); first | rfl | (simp only [execOp, Act.eval, Act.put, List.setIfInBounds_toArray, List.set_cons_zero, List.set_cons_succ]; rfl), hK _ ?_⟩
  clear hK K
  repeat (quiet_step (fail))
  refine wpQuiet_nil ?_
  intro _ hw'
  obtain ⟨nq, hw''⟩ := hw'
  subst hw''
  go_wp2
  go_ret
  exact ⟨rfl, pw_below_drewN BB6.out nq⟩
end Go.Proofs.Ytpcdkfbngoagnaa.C
