import Derived.Test.YtpcdkfbngoagnaaCx20
import Derived.Test.YtpcdkfbngoagnaaCx22
import Derived.Test.YtpcdkfbngoagnaaCx25
import Derived.ChangeKeysEq
namespace Go.Proofs.Ytpcdkfbngoagnaa.C
open Go.RowKit Go.Proofs.YtpcdkfbngoagnaaW.PrintWords Go.Proofs.YtpcdkfbngoagnaaW.PrintLast Go.Proofs.YtpcdkfbngoagnaaW.PrintMore
set_option linter.unusedVariables false
set_option linter.unusedSimpArgs false

/-- What a block of sixteen bytes holds, read as a slice. -/
theorem blkC5 {W : World} {g : Nat} {t : TypeId} {s : List Int} (h : W.heap[g]? = some (.cells (arrV 16 .u8 s) t (0, 0))) (hs : s.length = 16) : Kd.C (Kd.int .u8) W (some ⟨g, 0, none⟩) s.length s := by
  refine Kd.C_of_reads (enc := Value.int .u8) (d := 0) (h1 := fun _ => rfl) ⟨rfl, by omega, fun _ => ⟨_, rfl, fun j hj => ?_⟩⟩
  rw [Addr.add_mid, Nat.zero_add]
  exact (blk_cell h j).trans (arrV_get 16 .u8 s j (by omega))
theorem run_load39s (W : World) (ad : Addr) (l : List Int) (hl : l.length = 16) (hc : Kd.C (Kd.int .u8) W (some ad) l.length l) : (Instr.loadAt 39 (.pointer (some ad))).run Try.prog W = .ok (.agg (arrV 16 .u8 l)) W := by
  have h0 := run_loadCells_list (P := Try.prog) W ad (arrV 16 .u8 l).toList (fun j v hj => by
    have hj16 : j < 16 := by
      rcases Nat.lt_or_ge j 16 with h | h
      · exact h
      · rw [List.getElem?_eq_none (by simp [arrV]; omega)] at hj
        cases hj
    rw [Array.getElem?_toList, arrV_get 16 .u8 l j hj16] at hj
    obtain ⟨a2, e2, h2⟩ := Kd.at_int hc (j : Int) (by omega) (by omega)
    injection e2 with e2
    subst e2
    simp only [Int.toNat_natCast, rd] at h2
    rw [h2]
    exact hj)
  have hn : (arrV 16 .u8 l).toList.length = 16 := by simp [arrV]
  rw [hn] at h0
  have hs : (sizeOf 39).run Try.prog W = .ok 16 W := by kernel_rfl
  have ha : (isAgg 39).run Try.prog W = .ok true W := by kernel_rfl
  simp only [Array.toArray_toList] at h0
  simp [Instr.loadAt, Instr.sureAddr, loadVar, Sem.run_bind, ha, hs, h0]
theorem cut_call5 (l2 : List Int) (L : List Int) (n : Nat) (hL : L = l2.take n) (A2 : Option Addr) (c2 : Nat) (w : World) (hr2 : Kd.C (Kd.int .u8) w A2 l2.length l2) (hc2 : l2.length ≤ c2) (W : World) (hB : Below w.heap.size w W) :
    Calls Try.prog 24 #[.slice A2 l2.length c2, .int .i64 n] W fun e w' => ∃ A c, e = .returned (.slice A L.length c) ∧ Aside0 (L.length ≤ c) ∧ Aside0 (Kd.C (Kd.int .u8) w' A L.length L) ∧ Below W.heap.size W w' := by
  have hf : charterlaw04_cut.f l2 n = some L := by
    unfold charterlaw04_cut.f
    by_cases h : (l2.length : Int) > n
    · rw [if_pos h, if_pos (by omega), if_pos (by omega), hL]
      rfl
    · rw [if_neg h, hL, List.take_of_length_le (by omega)]
  refine (charterlaw04_cut.calls (fun k => k < W.heap.size) A2 c2 l2 n L W (Kd.V_mk hc2 (Kd.C_F (Kd.heap_int .u8) (Kd.C_below hr2 hB))) hf).mono ?_
  rintro e w' ⟨v, rfl, hV, hb⟩
  obtain ⟨A, c, rfl⟩ := Kd.V_slice hV
  exact ⟨A, c, rfl, ⟨(Kd.V_reads' hV).2.1⟩, ⟨(Kd.V_reads' hV).2.2⟩, hb⟩
theorem seal_call5 (k : Nat) (K B T X : List Int) (h : cbc_Seal.f k K B T = some (X, none)) (W : World) (a0 a1 a2 : Option Addr) (c0 c1 c2 n0 n1 n2 : Nat) (e0 : n0 = K.length) (e1 : n1 = B.length) (e2 : n2 = T.length)
    (ha : Kd.C (Kd.int .u8) W a0 K.length K) (hb : Kd.C (Kd.int .u8) W a1 B.length B) (ht : Kd.C (Kd.int .u8) W a2 T.length T) (hc0 : n0 ≤ c0) (hc1 : n1 ≤ c1) (hc2 : n2 ≤ c2) :
    Calls Try.prog 25 #[.slice a0 n0 c0, .slice a1 n1 c1, .slice a2 n2 c2] W fun e w' => ∃ a' c', e = .returned (.tuple #[.slice a' X.length c', .nilIface]) ∧ Aside0 (X.length ≤ c') ∧ Aside0 (Kd.C (Kd.int .u8) w' a' X.length X) ∧ Below W.heap.size W w' := by
  subst e0 e1 e2
  refine (cbc_Seal.calls k a0 c0 K a1 c1 B a2 c2 T X none W ha hc0 hb hc1 ht hc2 h).mono ?_
  rintro e w' ⟨v, rfl, hV, hB⟩
  obtain ⟨a', c', rfl⟩ := Kd.R_slice hV
  exact ⟨a', c', rfl, ⟨(Kd.R_reads' hV).2.1⟩, ⟨(Kd.R_reads' hV).2.2⟩, hB⟩
theorem open_call5 (k : Nat) (K B T X : List Int) (h : cbc_Open.f k K B T = some (X, none)) (W : World) (a0 a1 a2 : Option Addr) (c0 c1 c2 n0 n1 n2 : Nat) (e0 : n0 = K.length) (e1 : n1 = B.length) (e2 : n2 = T.length)
    (ha : Kd.C (Kd.int .u8) W a0 K.length K) (hb : Kd.C (Kd.int .u8) W a1 B.length B) (ht : Kd.C (Kd.int .u8) W a2 T.length T) (hc0 : n0 ≤ c0) (hc1 : n1 ≤ c1) (hc2 : n2 ≤ c2) :
    Calls Try.prog 27 #[.slice a0 n0 c0, .slice a1 n1 c1, .slice a2 n2 c2] W fun e w' => ∃ a' c', e = .returned (.tuple #[.slice a' X.length c', .nilIface]) ∧ Aside0 (X.length ≤ c') ∧ Aside0 (Kd.C (Kd.int .u8) w' a' X.length X) ∧ Below W.heap.size W w' := by
  subst e0 e1 e2
  refine (cbc_Open.calls k a0 c0 K a1 c1 B a2 c2 T X none W ha hc0 hb hc1 ht hc2 h).mono ?_
  rintro e w' ⟨v, rfl, hV, hB⟩
  obtain ⟨a', c', rfl⟩ := Kd.R_slice hV
  exact ⟨a', c', rfl, ⟨(Kd.R_reads' hV).2.1⟩, ⟨(Kd.R_reads' hV).2.2⟩, hB⟩
theorem blk_put39s {W : World} {g : Nat} {s : List Int} {t : TypeId} (h : W.heap[g]? = some (.cells (arrV 16 .u8 s) t (0, 0))) (i : Nat) (v : Int) (hi : i < s.length) : (W.setCell ⟨g, i, none⟩ (.int .u8 v)).heap[g]? = some (.cells (arrV 16 .u8 (s.set i v)) t (0, 0)) := by
  refine blk_put h i _ ?_
  apply Array.ext
  · simp [arrV]
  · intro j h1 h2
    have hj : j < 16 := by simpa [arrV] using h2
    simp only [arrV, Array.getElem_ofFn]
    rw [Array.getElem_setIfInBounds (by simpa [arrV] using hj)]
    by_cases e : i = j
    · subst e
      simp [List.getD_eq_getElem?_getD, List.getElem?_set, hi]
    · simp [List.getD_eq_getElem?_getD, List.getElem?_set, e]
theorem zero39s (W : World) : (zeroValue 39).run Try.prog W = .ok (.agg (arrV 16 .u8 [])) W := by kernel_rfl
/-- A block behind a call that keeps what stood. -/
theorem blk_kept5 {W w' : World} {g : Nat} {o : Obj} (h : W.heap[g]? = some o) (hB : Below W.heap.size W w') : w'.heap[g]? = some o := blk_below h hB

theorem eql_u8s (W : World) (d : Nat) (a b : Int) : (Op.equalIn (d + 1) 5 (.int .u8 a) (.int .u8 b)).run Try.prog W = .ok (a == b) W := by
  simp [Op.equalIn, Sem.run_bind, run_underlying Try.underlying5]
theorem eqItems_u8s (W : World) (d : Nat) (A B : List Int) : ∀ is : List Nat, (∀ i ∈ is, i < 16) → (Op.eqItems (d + 1) 5 1 (arrV 16 .u8 A) (arrV 16 .u8 B) is).run Try.prog W = .ok (is.all fun i => A.getD i 0 == B.getD i 0) W
  | [], _ => by simp [Op.eqItems]
  | i :: is, h => by
    have hi := h i (by simp)
    have p1 : (part 5 (arrV 16 .u8 A) (i * 1)).run Try.prog W = .ok (.int .u8 (A.getD i 0)) W := run_part_plain W (by kernel_rfl) (by rw [Nat.mul_one]; exact arrV_get 16 .u8 A i hi)
    have p2 : (part 5 (arrV 16 .u8 B) (i * 1)).run Try.prog W = .ok (.int .u8 (B.getD i 0)) W := run_part_plain W (by kernel_rfl) (by rw [Nat.mul_one]; exact arrV_get 16 .u8 B i hi)
    have ih := eqItems_u8s W d A B is (fun k hk => h k (by simp [hk]))
    simp only [Op.eqItems, Sem.run_bind, p1, p2, eql_u8s, Result.andThen_ok]
    cases hab : A.getD i 0 == B.getD i 0
    · simp only [List.all_cons, hab]
      simp
    · simp only [List.all_cons, hab]
      simpa using ih
theorem all_eqs (A B : List Int) (hA : A.length = 16) (hB : B.length = 16) : ((List.range 16).all fun i => A.getD i 0 == B.getD i 0) = (A == B) := by
  rw [Bool.eq_iff_iff, List.all_eq_true, beq_iff_eq]
  constructor
  · intro h
    refine List.ext_getElem (by omega) (fun i h1 h2 => ?_)
    have h3 := h i (List.mem_range.mpr (by omega))
    rw [beq_iff_eq, List.getD_eq_getElem?_getD, List.getD_eq_getElem?_getD, List.getElem?_eq_getElem h1, List.getElem?_eq_getElem h2] at h3
    exact h3
  · rintro rfl i _
    simp
theorem run_eql_arr39s (W : World) (A B : List Int) (hA : A.length = 16) (hB : B.length = 16) : (binOp .eql 39 (.agg (arrV 16 .u8 A)) (.agg (arrV 16 .u8 B))).run Try.prog W = .ok (.bool (A == B)) W := by
  have h1 : ∀ d, (Op.equalIn (d + 1 + 1) 39 (.agg (arrV 16 .u8 A)) (.agg (arrV 16 .u8 B))).run Try.prog W = .ok (A == B) W := by
    intro d
    obtain ⟨i, hi⟩ : ∃ i, Try.prog.info? 5 = some i := ⟨_, rfl⟩
    rw [run_equalIn_array (w := W) (d + 1) (arrV 16 .u8 A) (arrV 16 .u8 B) Try.underlying39 hi, show Try.prog.cellsOf 5 = 1 from by kernel_rfl, eqItems_u8s W d A B _ (fun i hi => List.mem_range.mp hi), all_eqs A B hA hB]
  have h2 : (Op.equal 39 (.agg (arrV 16 .u8 A)) (.agg (arrV 16 .u8 B))).run Try.prog W = .ok (A == B) W := h1 _
  simp [binOp, Sem.run_bind, h2]
theorem run_eqlg_arr39s (W : World) (A B : List Int) (hA : A.length = 16) (hB : B.length = 16) (x y : Operand) : (do eqGuard .eql 39 x y (.agg (arrV 16 .u8 A)) (.agg (arrV 16 .u8 B)); binOp .eql 39 (.agg (arrV 16 .u8 A)) (.agg (arrV 16 .u8 B)) : Sem Value).run Try.prog W = .ok (.bool (A == B)) W := by
  have hg : Try.prog.eqGuardType Try.prog.depth 39 = false := by kernel_rfl
  have h0 : (eqGuard .eql 39 x y (.agg (arrV 16 .u8 A)) (.agg (arrV 16 .u8 B))).run Try.prog W = .ok () W := by
    simp [eqGuard, Sem.run_bind, hg]
  simp [Sem.run_bind, h0, run_eql_arr39s W A B hA hB]
theorem quietAt_vals {P : Program} {o : Oper} {a : Act} {C : World → Prop} {W : World} {v : Value} {s : Sem Value} (he : execOp a.eval o = (do let x ← s; pure (Next.value x))) (h : s.run P W = .ok v W) : o.quietAt P a C W v := by
  unfold Oper.quietAt
  rw [he]
  simp [Sem.run_bind, h, Oper.quietUpon]

theorem str_size (xs : List Int) : (strOfNums xs).size = xs.length := by simp [strOfNums, ByteArray.size]
theorem run_equalIn39 (W : World) (A : List Int) (hA : A.length = 16) : (Op.equalIn 10000 39 (.agg (arrV 16 .u8 A)) (.agg (arrV 16 .u8 A))).run Try.prog W = .ok true W := by
  have h1 : ∀ d, (Op.equalIn (d + 1 + 1) 39 (.agg (arrV 16 .u8 A)) (.agg (arrV 16 .u8 A))).run Try.prog W = .ok true W := by
    intro d
    obtain ⟨i, hi⟩ : ∃ i, Try.prog.info? 5 = some i := ⟨_, rfl⟩
    rw [run_equalIn_array (w := W) (d + 1) (arrV 16 .u8 A) (arrV 16 .u8 A) Try.underlying39 hi, show Try.prog.cellsOf 5 = 1 from by kernel_rfl, eqItems_u8s W d A A _ (fun i hi => List.mem_range.mp hi), all_eqs A A hA hA]
    simp
  exact h1 9998
theorem open_callE (k : Nat) (K B T X : List Int) (r : Option Int) (h : cbc_Open.f k K B T = some (X, r)) (W : World) (a0 a1 a2 : Option Addr) (c0 c1 c2 n0 n1 n2 : Nat) (e0 : n0 = K.length) (e1 : n1 = B.length) (e2 : n2 = T.length)
    (ha : Kd.C (Kd.int .u8) W a0 K.length K) (hb : Kd.C (Kd.int .u8) W a1 B.length B) (ht : Kd.C (Kd.int .u8) W a2 T.length T) (hc0 : n0 ≤ c0) (hc1 : n1 ≤ c1) (hc2 : n2 ≤ c2) (ev : Value) (hev : ev = errW r) :
    Calls Try.prog 27 #[.slice a0 n0 c0, .slice a1 n1 c1, .slice a2 n2 c2] W fun e w' => ∃ a' c', e = .returned (.tuple #[.slice a' X.length c', ev]) ∧ Aside0 (X.length ≤ c') ∧ Aside0 (Kd.C (Kd.int .u8) w' a' X.length X) ∧ Below W.heap.size W w' := by
  subst e0 e1 e2 hev
  refine (cbc_Open.calls k a0 c0 K a1 c1 B a2 c2 T X r W ha hc0 hb hc1 ht hc2 h).mono ?_
  rintro e w' ⟨v, rfl, hV, hB⟩
  obtain ⟨a', c', rfl⟩ := Kd.R_slice hV
  exact ⟨a', c', rfl, ⟨(Kd.R_reads' hV).2.1⟩, ⟨(Kd.R_reads' hV).2.2⟩, hB⟩
theorem add_one_rng (x : Int) : True := trivial
def cbcStays.T21 : Bool × List (List Nat × List Nat) := (true, [([], []), ([0], [0]), ([1], [1]), ([1, 2], [1, 2]), ([3, 1], [3]), ([4], [4]), ([5, 4], [4, 5]), ([4, 6], [4, 6]), ([7, 4], [7]), ([8], [8]), ([9, 8], [8, 9]), ([8, 10], [8, 10]), ([11, 8], [11]), ([12], [12]), ([13, 12], [12, 13]), ([12], [12]), ([15, 12], [12, 15]), ([14, 16, 12], [12, 14, 16]), ([12, 17], [12, 17]), ([18, 12], [18]), ([19], [19]), ([20, 19, 19], [19, 20]), ([21, 19], [19, 21]), ([19], [19]), ([23, 19], [19, 23]), ([22, 24, 19], [19, 22, 24]), ([19], [19]), ([26, 19], [19, 26]), ([25, 27, 19], [19, 25, 27]), ([19], [19]), ([28, 29, 19], [19, 28, 29]), ([19, 30], [19, 30]), ([31, 21, 0, 1, 2, 3, 4, 5, 6, 7, 8, 9, 10, 11, 12, 13, 14, 15, 16, 17, 18, 19, 20, 21, 22, 23, 24, 25, 26, 27, 28, 29, 30, 31], [31])])
def cbcStays.B21 : List Nat := [0, 1, 3, 7, 15, 31, 63, 127, 255, 511, 1023, 2047, 4095, 8191, 16383, 8191, 40959, 131071, 262143, 524287, 1048575, 2097151, 4194303, 1048575, 9437183, 33554431, 1048575, 68157439, 268435455, 1048575, 1073741823, 2147483647, 4294967295]
theorem cbcStays.tab21 : rtab .any (opsOf Try.f13 21) = cbcStays.T21 := by kernel_rfl
theorem cbcStays.bits21 : waitsOk cbcStays.T21.2 cbcStays.B21 = true := by kernel_rfl
theorem guard_ev (r : Option Int) (W : World) (t : Tmp) : Sem.run Try.prog (eqGuard .eql 28 (.tmp t) (.const .nilIface) (errW r) .nilIface) W = .ok () W := by
  have hu28 := Try.underlying28
  have hu31 := Try.underlying31
  cases r with
  | none =>
    rw [errW_none]
    simp [eqGuard]
  | some c =>
    rw [errW_some]
    go_simp
set_option maxHeartbeats 8000000 in
set_option maxRecDepth 100000 in
theorem stays4 (k : Nat) (K Bg b b2 F C T : List Int) (r : Option Int) (hK : K.length = 16) (hBg : Bg.length = 16) (A2 : Option Addr) (c2 : Nat) (w : World)
    (hr2 : Kd.C (Kd.int .u8) w A2 b.length b) (hc2 : b.length ≤ c2) (hb : b2 = b.take 300)
    (hup : charterlaw04_up.f k = some true) (h0 : cbc_Fill.f k b2 = some F) (h1 : cbc_Seal.f k K Bg b2 = some (C, none)) (h3 : cbc_Open.f k K Bg b2 = some (T, r)) (hlen : F.length ≤ 100000 ∧ C.length ≤ 100000 ∧ T.length ≤ 100000) :
    Calls Try.prog 13 #[.agg (arrV 16 .u8 K), .agg (arrV 16 .u8 Bg), .slice A2 b.length c2] w fun e w' => e = .returned (.bool true) ∧ Below w.heap.size w w' := by
  obtain ⟨ev, hev⟩ : ∃ ev, ev = errW r := ⟨_, rfl⟩
  have HEV := Aside0.mk hev
  obtain ⟨sF, hsF⟩ : ∃ s, s = strOfNums F := ⟨_, rfl⟩
  obtain ⟨sC, hsC⟩ : ∃ s, s = strOfNums C := ⟨_, rfl⟩
  obtain ⟨sT, hsT⟩ : ∃ s, s = strOfNums T := ⟨_, rfl⟩
  have hzF : sF.size ≤ 100000 := by rw [hsF, str_size]; exact hlen.1
  have hzC : sC.size ≤ 100000 := by rw [hsC, str_size]; exact hlen.2.1
  have hzT : sT.size ≤ 100000 := by rw [hsT, str_size]; exact hlen.2.2
  have HFL := Aside0.mk hlen.1
  have HSS := Aside0.mk (And.intro hsF (And.intro hsC hsT))
  clear hsF hsC hsT hlen
  have HR := Aside0.mk (And.intro hr2 hc2)
  have HB := Aside0.mk hb
  have HBL := Aside0.mk (show b2.length ≤ 300 by rw [hb]; simp; omega)
  have HU := Aside0.mk hup
  have H0 := Aside0.mk h0
  have H1 := Aside0.mk h1
  have H3 := Aside0.mk h3
  have HK := Aside0.mk hK
  have HBg := Aside0.mk hBg
  clear hr2 hc2 hb hup h0 h1 h3 hK hBg hev
  go_enter Try.func13, Try.ntmps13
  go_wp2_with fail
  refine (charterlaw04_up.calls k true _ HU.out).mono ?_
  rintro e w1 ⟨rfl, hb⟩
  have hk0 : ((w.alloc (.cells (arrV 16 .u8 K) 39)).alloc (.cells (arrV 16 .u8 Bg) 39)).heap[w.heap.size]? = some (.cells (arrV 16 .u8 K) 39 (0, 0)) := blk_alloc (heap_alloc_last w _) _
  have hb0 : ((w.alloc (.cells (arrV 16 .u8 K) 39)).alloc (.cells (arrV 16 .u8 Bg) 39)).heap[w.heap.size + 1]? = some (.cells (arrV 16 .u8 Bg) 39 (0, 0)) := by
    have h := heap_alloc_last (w.alloc (.cells (arrV 16 .u8 K) 39)) (.cells (arrV 16 .u8 Bg) 39)
    rw [World.size_alloc] at h
    exact h
  have hB0 : Below w.heap.size w ((w.alloc (.cells (arrV 16 .u8 K) 39)).alloc (.cells (arrV 16 .u8 Bg) 39)) := ((Below.refl _ _).alloc (Nat.le_refl _) _).alloc (by simp) _
  have GK := Aside0.mk (blk_kept5 hk0 hb)
  have GB := Aside0.mk (blk_kept5 hb0 hb)
  have BB := Aside0.mk (below_step hB0 hb)
  clear hk0 hb0 hB0 hb
  go_wp2_with fail
  refine (cut_call5 b b2 300 HB.out A2 c2 w HR.out.1 HR.out.2 w1 BB.out).mono ?_
  rintro e w2 ⟨aa, ca, rfl, LA, CA, hb2⟩
  have S2 := Aside0.mk (And.intro (blk_kept5 GK.out hb2) (And.intro (blk_kept5 GB.out hb2) (And.intro CA.out (below_step BB.out hb2))))
  clear hb2 GK GB BB CA
  obtain ⟨gK, hgK⟩ : ∃ g, g = w.heap.size := ⟨_, rfl⟩
  go_upto_region 4 with (first
    | ((with_reducible refine gate_dst (N := 27) rfl ?_); refine Kd.R_lit (Kd.int .u8) _ 5 ?hg (N := 27) ?hd (xs := ([] : List Int)) (inner := []) (ok := fun _ => True) (okp := fun _ => True) ?hr ?hp (fun _ hk => hk) trivial (Below.refl _ _) (Nat.le_refl _) (by simp) ?_; (case hd => rfl); (case hg => rfl); (case hr => first | (go_simp; done) | (go_simp; rfl)); (case hp => exact (Reps.none _ _)); intro v3 w3 ho4 hb hg_ hnew_; clear hg_ hnew_; have HL3 := Aside0.mk ho4; have HB3 := Aside0.mk hb; clear hb ho4)
    | ((with_reducible refine gate_builtin (b := .append) (xs := #[.tmp 27, .tmp 28]) rfl ?_); at_builtin; refine Kd.R_append_rows (Kd.int .u8) (w0 := w2) w2.heap.size rfl (.tmp 27) (.tmp 28) 25 5 (.int .u8 0) 1 rfl Try.underlying25 info5 rfl (by decide) (by omega) v3 [] b2 _ _ _ (fun _ => True) (fun _ => False) rfl rfl ?aO ?aR (fun _ _ h => h) (fun _ h => h.elim) ?aF ?aB ?aS ?aL ?_; (case aR => exact Kd.C_below S2.out.2.2.1 HB3.out); (case aB => exact HB3.out); (case aF => exact (fun _ _ => trivial)); (case aO => exact HL3.out); (case aS => exact HB3.out.size); (case aL => have := HBL.out; simp only [List.length_nil]; omega); intro v4 w4 ho hb hg hat; have HO4 := Aside0.mk (show Kd.R (Kd.int .u8) 5 w4 w2.heap.size (fun _ => True) v4 b2 from ho); have HB4 := Aside0.mk hb; clear ho hb hg hat))
  clear HL3 HB3
  obtain ⟨oA, oc, rfl⟩ := Kd.R_slice HO4.out
  -- the two copies
  obtain ⟨W5, hW5⟩ : ∃ W, W = w4.alloc (.cells (arrV 16 .u8 K) 39) := ⟨_, rfl⟩
  have HW5 := Aside0.mk hW5
  have S4 := Aside0.mk (And.intro ((HB4.out.block _ (blk_lt S2.out.1)).trans S2.out.1) ((HB4.out.block _ (blk_lt S2.out.2.1)).trans S2.out.2.1))
  have hz39 := zero39s
  have hb5 : Below w4.heap.size w4 W5 := by rw [hW5]; exact (Below.refl _ _).alloc (Nat.le_refl _) _
  have G5 := Aside0.mk (show W5.heap[w4.heap.size]? = some (.cells (arrV 16 .u8 K) 39 (0, 0)) by rw [hW5]; exact heap_alloc_last w4 _)
  have S5 := Aside0.mk (blk_kept5 S4.out.2 hb5)
  have HB5 := Aside0.mk (below_weaken HB4.out HB4.out.size hb5)
  have HO5 := Aside0.mk (Kd.R_below HO4.out hb5)
  clear hW5 hb5
  go_upto_region 5 with (first | (refine wpList_load_row rfl 39 _ rfl w.heap.size rfl 39 _ (0, 0) _ S4.out.1 Try.underlying39 rfl (by kernel_rfl) ?_) | (refine wpList_store_rowTo rfl 39 _ _ rfl rfl w4.heap.size (arrV 16 .u8 K) rfl rfl 39 _ (heap_alloc_last w4 _) (by kernel_rfl) (by simp [arrV_size]) (arrV_one _ _ _) ?_; rw [World.setRow_alloc_new, ← HW5.out]))
  obtain ⟨W6, hW6⟩ : ∃ W, W = W5.alloc (.cells (arrV 16 .u8 Bg) 39) := ⟨_, rfl⟩
  have HW6 := Aside0.mk hW6
  have hb6 : Below W5.heap.size W5 W6 := by rw [hW6]; exact (Below.refl _ _).alloc (Nat.le_refl _) _
  have G6 := Aside0.mk (show W6.heap[W5.heap.size]? = some (.cells (arrV 16 .u8 Bg) 39 (0, 0)) by rw [hW6]; exact heap_alloc_last W5 _)
  have G6k := Aside0.mk (blk_kept5 G5.out hb6)
  have HB6 := Aside0.mk (below_weaken HB5.out HB5.out.size hb6)
  have HO6 := Aside0.mk (Kd.R_below HO5.out hb6)
  clear hW6 hb6
  go_upto_region 6 with (first | (refine wpList_load_row rfl 39 _ rfl (w.heap.size + 1) rfl 39 _ (0, 0) _ S5.out Try.underlying39 rfl (by kernel_rfl) ?_) | (refine wpList_store_rowTo rfl 39 _ _ rfl rfl W5.heap.size (arrV 16 .u8 Bg) rfl rfl 39 _ (heap_alloc_last W5 _) (by kernel_rfl) (by simp [arrV_size]) (arrV_one _ _ _) ?_; rw [World.setRow_alloc_new, ← HW6.out]))
  clear HW5 HW6 S4 S5 G5 HB4 HB5 HO4 HO5
  have CO6 := Aside0.mk (Kd.R_reads' HO6.out)
  go_wp2_with fail
  refine (cbc_Fill.calls k oA oc b2 F W6 CO6.out.2.2 CO6.out.2.1 H0.out).mono ?_
  rintro e w7 ⟨v7, rfl, hF7, hb7⟩
  obtain ⟨fA, fc, rfl⟩ := Kd.R_slice hF7
  have G7k := Aside0.mk (blk_kept5 G6k.out hb7)
  have G7i := Aside0.mk (blk_kept5 G6.out hb7)
  have HB7 := Aside0.mk (below_weaken HB6.out HB6.out.size hb7)
  have HO7 := Aside0.mk (Kd.R_below HO6.out hb7)
  have HF7 := Aside0.mk (Kd.R_mono (Kd.R_bound hF7) (ok' := fun k => W6.heap.size ≤ k) (fun k hk => hk.2.1))
  have HW6 := Aside0.mk HB6.out.size
  have HGo := Aside0.mk (fun k hk => own_lt (Kd.own_of_R HO6.out) k hk)
  clear hF7 hb7 G6 G6k HB6 HO6 CO6
  have CO7 := Aside0.mk (Kd.R_reads' HO7.out)
  go_wp2_with fail
  go_region_with (go_at_call 25; refine (seal_call5 k K Bg b2 C H1.out _ _ _ _ _ _ _ _ _ _ HK.out.symm HBg.out.symm rfl (by first | exact blkC5 G7k.out HK.out | exact Kd.C_drew (blkC5 G7k.out HK.out)) (by first | exact blkC5 G7i.out HBg.out | exact Kd.C_drew (blkC5 G7i.out HBg.out)) (by first | exact CO7.out.2.2 | exact Kd.C_drew CO7.out.2.2) (by decide) (by decide) CO7.out.2.1).mono ?_; rintro e w8 ⟨cA, cc, rfl, LC, CC, hb8⟩)
  have G8k := Aside0.mk (blk_kept5 (W := w7.drew) G7k.out hb8)
  have G8i := Aside0.mk (blk_kept5 (W := w7.drew) G7i.out hb8)
  have HB8 := Aside0.mk (below_weaken (below_drew1 HB7.out) HB7.out.size hb8)
  have HO8 := Aside0.mk (Kd.R_below (Kd.R_drew HO7.out) hb8)
  have HF8 := Aside0.mk (Kd.R_below (Kd.R_drew HF7.out) hb8)
  clear hb8 G7k G7i HB7 HO7 HF7 CO7
  have CO8 := Aside0.mk (Kd.R_reads' HO8.out)
  try go_wp2_with fail
  go_region_with (go_at_call 27; refine (open_callE k K Bg b2 T r H3.out _ _ _ _ _ _ _ _ _ _ HK.out.symm HBg.out.symm rfl (by first | exact blkC5 G8k.out HK.out | exact Kd.C_drew (blkC5 G8k.out HK.out)) (by first | exact blkC5 G8i.out HBg.out | exact Kd.C_drew (blkC5 G8i.out HBg.out)) (by first | exact CO8.out.2.2 | exact Kd.C_drew CO8.out.2.2) (by decide) (by decide) CO8.out.2.1 ev HEV.out).mono ?_; rintro e w9 ⟨tA, tc, rfl, LT, CT, hb9⟩)
  have G9k := Aside0.mk (blk_kept5 (W := w8.drew) G8k.out hb9)
  have G9i := Aside0.mk (blk_kept5 (W := w8.drew) G8i.out hb9)
  have HB9 := Aside0.mk (below_weaken (below_drew1 HB8.out) HB8.out.size hb9)
  have HO9 := Aside0.mk (Kd.R_below (Kd.R_drew HO8.out) hb9)
  have HF9 := Aside0.mk (Kd.R_below (Kd.R_drew HF8.out) hb9)
  have CC9 := Aside0.mk (Kd.C_below (Kd.C_drew CC.out) hb9)
  clear hb9 G8k G8i HB8 HO8 HF8 CO8 CC
  have CO9 := Aside0.mk (Kd.R_reads' HO9.out)
  have CF9 := Aside0.mk (Kd.R_reads' HF9.out)
  have S9 := Aside0.mk (And.intro ((HB9.out.block _ (blk_lt S2.out.1)).trans S2.out.1) (And.intro ((HB9.out.block _ (blk_lt S2.out.2.1)).trans S2.out.2.1) (Kd.C_below S2.out.2.2.1 HB9.out)))
  have hso := Kd.C_string (P := Try.prog) (c := oc) Try.underlying25 Try.underlying5 Try.underlying9 CO9.out.2.2
  have hsb := Kd.C_string (P := Try.prog) (c := ca) Try.underlying25 Try.underlying5 Try.underlying9 S9.out.2.2
  have hsf := Kd.C_string (P := Try.prog) (c := fc) Try.underlying25 Try.underlying5 Try.underlying9 CF9.out.2.2
  have hsc := Kd.C_string (P := Try.prog) (c := cc) Try.underlying25 Try.underlying5 Try.underlying9 CC9.out
  have hst := Kd.C_string (P := Try.prog) (c := tc) Try.underlying25 Try.underlying5 Try.underlying9 CT.out
  rw [← HSS.out.1] at hsf
  rw [← HSS.out.2.1] at hsc
  rw [← HSS.out.2.2] at hst
  have hek := run_equalIn39 w9 K HK.out
  have heb := run_equalIn39 w9 Bg HBg.out
  go_wp2_with (first
    | ((try (refine gate_guard (by rfl) ?_; dsimp only)); refine wpList_load_row rfl 39 _ rfl w4.heap.size rfl 39 _ (0, 0) _ G9k.out Try.underlying39 rfl (by kernel_rfl) ?_)
    | ((try (refine gate_guard (by rfl) ?_; dsimp only)); refine wpList_load_row rfl 39 _ rfl W5.heap.size rfl 39 _ (0, 0) _ G9i.out Try.underlying39 rfl (by kernel_rfl) ?_)
    | ((try (refine gate_guard (by rfl) ?_; dsimp only)); refine wpList_load_row rfl 39 _ rfl w.heap.size rfl 39 _ (0, 0) _ S9.out.1 Try.underlying39 rfl (by kernel_rfl) ?_)
    | ((try (refine gate_guard (by rfl) ?_; dsimp only)); refine wpList_load_row rfl 39 _ rfl (w.heap.size + 1) rfl 39 _ (0, 0) _ S9.out.2.1 Try.underlying39 rfl (by kernel_rfl) ?_))
  clear hso hsb hsf hsc hst hek heb CO9 CF9 S9 G9k G9i CC9 CT hz39
  go_loopw [18] (fun i wr => ∃ (j : Nat) (xs : List Int), j ≤ b2.length ∧ i = .int .i64 j ∧ Aside0 (xs.length = b2.length) ∧ Aside0 (Kd.R (Kd.int .u8) 5 wr w2.heap.size (fun _ => True) (.slice oA b2.length oc) xs) ∧ Aside0 (Kd.R (Kd.int .u8) 5 wr W6.heap.size (fun k => W6.heap.size ≤ k) (.slice fA F.length fc) F) ∧ Aside0 (Below w2.heap.size w2 wr)) (fun i _ => b2.length - (intOf i).toNat)
  case atStart => exact ⟨0, b2, by omega, rfl, ⟨rfl⟩, HO9, HF9, HB9⟩
  case round =>
    clear HO9 HF9 HB9
    obtain ⟨j, xs, hj, rfl, HX, HO, HF, HBr⟩ := hrel
    by_cases hlt : j < b2.length
    · have hown := Kd.own_of_R HO.out
      rw [HX.out] at hown
      obtain ⟨g, rfl⟩ : ∃ g, oA = some ⟨g, 0, none⟩ := by
        rcases hown.2 with ⟨e, h0⟩ | ⟨g, cap, cur, e, _⟩
        · omega
        · injection e with e; exact ⟨g, e⟩
      have hat_ := own_at (k := .u8) (xs := xs) hown (j : Int) (by omega) (by omega)
      have hput := fun (x : Int) => Kd.R_putn (enc := Value.int .u8) (h1 := fun _ => rfl) HO.out (j : Int) x
      have hgo := HGo.out g (by simp [Value.ownBlock])
      have hgb := Kd.R_base HO.out g (by simp [Value.ownBlock])
      simp only [Int.toNat_natCast, rd] at hat_ hput
      obtain ⟨x, hx⟩ : ∃ x, x = xs.getD j 0 := ⟨_, rfl⟩
      rw [← hx] at hat_
      have hc1 := hat_.1
      have hf1 := hat_.2
      have hjl : (j : Int) < b2.length := by omega
      have hj300 : j < 300 := by have := HBL.out; omega
      have HP := Aside0.mk (And.intro hput (And.intro hgo hgb))
      clear hput hgo hgb hown hat_ hx
      go_wp2
      go_roundw
      case rel => exact ⟨j + 1, _, by omega, by go_num, ⟨by rw [List.length_set]; exact HX.out⟩, ⟨HP.out.1 _⟩, ⟨Kd.R_far (p := ⟨g, j, none⟩) HF.out (fun k hk => by have := HP.out.2.1; simp only; omega) _⟩, ⟨HBr.out.setCell (p := ⟨g, j, none⟩) HP.out.2.2 _⟩⟩
      case measure => simp [intOf]; omega
    · obtain rfl : j = b2.length := by omega
      clear HO HX
      have hjl : ¬ ((b2.length : Int) < b2.length) := by omega
      go_wp2_with fail
      go_loopw [19] (fun i wr => ∃ (j : Nat) (xs : List Int), j ≤ F.length ∧ i = .int .i64 j ∧ Aside0 (xs.length = F.length) ∧ Aside0 (Kd.R (Kd.int .u8) 5 wr W6.heap.size (fun k => W6.heap.size ≤ k) (.slice fA F.length fc) xs) ∧ Aside0 (Below w2.heap.size w2 wr)) (fun i _ => F.length - (intOf i).toNat)
      case atStart => exact ⟨0, F, by omega, rfl, ⟨rfl⟩, HF, HBr⟩
      case round =>
        clear HF HBr
        obtain ⟨j, xs, hj, rfl, HX, HF, HBr⟩ := hrel
        by_cases hlt : j < F.length
        · have hown := Kd.own_of_R HF.out
          rw [HX.out] at hown
          obtain ⟨g, rfl⟩ : ∃ g, fA = some ⟨g, 0, none⟩ := by
            rcases hown.2 with ⟨e, h0⟩ | ⟨g, cap, cur, e, _⟩
            · omega
            · injection e with e; exact ⟨g, e⟩
          have hat_ := own_at (k := .u8) (xs := xs) hown (j : Int) (by omega) (by omega)
          have hput := fun (x : Int) => Kd.R_putn (enc := Value.int .u8) (h1 := fun _ => rfl) HF.out (j : Int) x
          have hgb := Kd.R_base HF.out g (by simp [Value.ownBlock])
          simp only [Int.toNat_natCast, rd] at hat_ hput
          obtain ⟨x, hx⟩ : ∃ x, x = xs.getD j 0 := ⟨_, rfl⟩
          rw [← hx] at hat_
          have hc1 := hat_.1
          have hf1 := hat_.2
          have hjl : (j : Int) < F.length := by omega
          have hj300 : j < 100000 := by have := HFL.out; omega
          have HP := Aside0.mk (And.intro hput hgb)
          clear hput hgb hown hat_ hx
          go_wp2
          go_roundw
          case rel => exact ⟨j + 1, _, by omega, by go_num, ⟨by rw [List.length_set]; exact HX.out⟩, ⟨HP.out.1 _⟩, ⟨HBr.out.setCell (p := ⟨g, j, none⟩) (Nat.le_trans HW6.out HP.out.2) _⟩⟩
          case measure => simp [intOf]; omega
        · obtain rfl : j = F.length := by omega
          clear HF HX
          have hjl : ¬ ((F.length : Int) < F.length) := by omega
          go_wp2_with fail
          have SR := Aside0.mk (And.intro ((HBr.out.block _ (blk_lt S2.out.1)).trans S2.out.1) (And.intro ((HBr.out.block _ (blk_lt S2.out.2.1)).trans S2.out.2.1) (And.intro (Kd.C_below S2.out.2.2.1 HBr.out) (below_step S2.out.2.2.2 HBr.out))))
          clear HBr hjl
          go_region_with (go_at_call 25; refine (seal_call5 k K Bg b2 C H1.out _ _ _ _ _ _ _ _ _ _ HK.out.symm HBg.out.symm rfl (by first | exact blkC5 SR.out.1 HK.out | exact Kd.C_drew (blkC5 SR.out.1 HK.out)) (by first | exact blkC5 SR.out.2.1 HBg.out | exact Kd.C_drew (blkC5 SR.out.2.1 HBg.out)) (by first | exact SR.out.2.2.1 | exact Kd.C_drew SR.out.2.2.1) (by decide) (by decide) LA.out).mono ?_; rintro e w10 ⟨uA, uc, rfl, LU, CU, hb10⟩)
          have SU := Aside0.mk (And.intro (blk_kept5 (W := wr.drew) SR.out.1 hb10) (And.intro (blk_kept5 (W := wr.drew) SR.out.2.1 hb10) (And.intro (Kd.C_below (Kd.C_drew SR.out.2.2.1) hb10) (below_step (below_drew1 SR.out.2.2.2) hb10))))
          clear hb10 SR
          try go_wp2_with fail
          go_region_with (go_at_call 27; refine (open_callE k K Bg b2 T r H3.out _ _ _ _ _ _ _ _ _ _ HK.out.symm HBg.out.symm rfl (by first | exact blkC5 SU.out.1 HK.out | exact Kd.C_drew (blkC5 SU.out.1 HK.out)) (by first | exact blkC5 SU.out.2.1 HBg.out | exact Kd.C_drew (blkC5 SU.out.2.1 HBg.out)) (by first | exact SU.out.2.2.1 | exact Kd.C_drew SU.out.2.2.1) (by decide) (by decide) LA.out ev HEV.out).mono ?_; rintro e w11 ⟨vA, vc, rfl, LV, CV, hb11⟩)
          have SV := Aside0.mk (And.intro (Kd.C_below (Kd.C_drew CU.out) hb11) (And.intro CV.out (And.intro (Kd.C_below (Kd.C_drew SU.out.2.2.1) hb11) (below_step (below_drew1 SU.out.2.2.2) hb11))))
          clear hb11 SU CU CV
          try go_wp2_with fail
          have hsu := fun (W : World) (hb : Below w11.heap.size w11 W) => Kd.C_string (P := Try.prog) (c := uc) Try.underlying25 Try.underlying5 Try.underlying9 (Kd.C_below SV.out.1 hb)
          have hsv := fun (W : World) (hb : Below w11.heap.size w11 W) => Kd.C_string (P := Try.prog) (c := vc) Try.underlying25 Try.underlying5 Try.underlying9 (Kd.C_below SV.out.2.1 hb)
          rw [← HSS.out.2.1] at hsu
          rw [← HSS.out.2.2] at hsv
          have HSU := Aside0.mk (And.intro hsu hsv)
          clear hsu hsv
          obtain ⟨wd, hwd⟩ : ∃ wd, wd = w11.drew := ⟨_, rfl⟩
          have D11 := Aside0.mk (show Below w11.heap.size w11 wd by rw [hwd]; exact (Below.refl w11.heap.size w11).drew)
          have hu28 := Try.underlying28
          have hu31 := Try.underlying31
          have hev : ev = .nilIface ∨ ∃ c : Int, ev = .iface 31 (.int .i64 c) := by
            rw [HEV.out]
            cases r with
            | none => exact .inl rfl
            | some c => exact .inr ⟨c, rfl⟩
          obtain ⟨be, hbe⟩ : ∃ be, ∀ W, Sem.run Try.prog (binOp .eql 28 ev .nilIface) W = .ok (.bool be) W := by
            rcases hev with rfl | ⟨c, rfl⟩
            · exact ⟨true, fun W => by go_simp⟩
            · exact ⟨false, fun W => by go_simp⟩
          clear hev
          have hbb : (be == be) = true := by simp
          have hcat1 : ¬ (9223372036854775807 < sF.size + sC.size) := by omega
          have hcat2 : ¬ (9223372036854775807 < sF.size + sC.size + sT.size) := by omega
          have hge : ∀ (W : World) (t : Tmp), Sem.run Try.prog (eqGuard .eql 28 (.tmp t) (.const .nilIface) ev .nilIface) W = .ok () W := by rw [HEV.out]; exact guard_ev r
          simp only [List.getElem_toArray, List.getElem_cons_zero, List.getElem_cons_succ, Act.put, List.setIfInBounds_toArray, List.set_cons_zero, List.set_cons_succ]
          refine start_ (n := 33) (S := fun w' => True) (ds := []) #[false, false, false, false, false, false, false, false, false, false, false, false, false, false, false, false, false, false, false, false, false, false, false, false, false, false, false, false, false, false, false, false, false] (by kernel_rfl) rfl rfl trivial (fun hHeld => ?_)
          refine with_tabW cbcStays.tab21 cbcStays.bits21 (fun HT_ HW_ => ?_)
          rw [← hwd]
          clear hwd
          refine pure_ (i := 0) (N := some 113) (v := ?_) (a' := ?_) #[true, false, false, false, false, false, false, false, false, false, false, false, false, false, false, false, false, false, false, false, false, false, false, false, false, false, false, false, false, false, false, false, false] rfl rfl (any_of HT_.out (by kernel_rfl)) (fun _ _ _ h => h) (Or.inl ⟨by rfl, ?_⟩) ?_ ?_
          rotate_left
          · intro w'
            go_simp
            try (with_reducible rfl)
          rotate_left
          · simp only [Act.put, List.setIfInBounds_toArray, List.set_cons_zero, List.set_cons_succ, i64_w, i32_w]
            rfl
          refine pure_ (i := 1) (N := some 114) (v := ?_) (a' := ?_) #[true, true, false, false, false, false, false, false, false, false, false, false, false, false, false, false, false, false, false, false, false, false, false, false, false, false, false, false, false, false, false, false, false] rfl rfl (any_of HT_.out (by kernel_rfl)) (fun _ _ _ h => h) (Or.inl ⟨by rfl, ?_⟩) ?_ ?_
          rotate_left
          · intro w'
            go_simp
            try (with_reducible rfl)
          rotate_left
          · simp only [Act.put, List.setIfInBounds_toArray, List.set_cons_zero, List.set_cons_succ, i64_w, i32_w]
            rfl
          refine pure_ (i := 2) (N := some 115) (v := ?_) (a' := ?_) #[true, true, true, false, false, false, false, false, false, false, false, false, false, false, false, false, false, false, false, false, false, false, false, false, false, false, false, false, false, false, false, false, false] rfl rfl (any_of HT_.out (by kernel_rfl)) (fun _ _ _ h => h) (Or.inl ⟨by rfl, ?_⟩) ?_ ?_
          rotate_left
          · intro w'
            go_simp
            try (with_reducible rfl)
          rotate_left
          · simp only [Act.put, List.setIfInBounds_toArray, List.set_cons_zero, List.set_cons_succ, i64_w, i32_w]
            rfl
          refine pure_ (i := 3) (N := some 116) (v := ?_) (a' := ?_) #[true, true, true, true, false, false, false, false, false, false, false, false, false, false, false, false, false, false, false, false, false, false, false, false, false, false, false, false, false, false, false, false, false] rfl rfl (any_of HT_.out (by kernel_rfl)) (fun _ _ _ h => h) (Or.inl ⟨by rfl, ?_⟩) ?_ ?_
          rotate_left
          · intro w'
            go_simp
            try (with_reducible rfl)
          rotate_left
          · simp only [Act.put, List.setIfInBounds_toArray, List.set_cons_zero, List.set_cons_succ, i64_w, i32_w]
            rfl
          refine pure_ (i := 4) (N := some 117) (v := ?_) (a' := ?_) #[true, true, true, true, true, false, false, false, false, false, false, false, false, false, false, false, false, false, false, false, false, false, false, false, false, false, false, false, false, false, false, false, false] rfl rfl (any_of HT_.out (by kernel_rfl)) (fun _ _ _ h => h) (Or.inl ⟨by rfl, ?_⟩) ?_ ?_
          rotate_left
          · intro w'
            go_simp
            try (with_reducible rfl)
          rotate_left
          · simp only [Act.put, List.setIfInBounds_toArray, List.set_cons_zero, List.set_cons_succ, i64_w, i32_w]
            rfl
          refine pure_ (i := 5) (N := some 118) (v := ?_) (a' := ?_) #[true, true, true, true, true, true, false, false, false, false, false, false, false, false, false, false, false, false, false, false, false, false, false, false, false, false, false, false, false, false, false, false, false] rfl rfl (any_of HT_.out (by kernel_rfl)) (fun _ _ _ h => h) (Or.inl ⟨by rfl, ?_⟩) ?_ ?_
          rotate_left
          · intro w'
            go_simp
            try (with_reducible rfl)
          rotate_left
          · simp only [Act.put, List.setIfInBounds_toArray, List.set_cons_zero, List.set_cons_succ, i64_w, i32_w]
            rfl
          refine pure_ (i := 6) (N := some 119) (v := ?_) (a' := ?_) #[true, true, true, true, true, true, true, false, false, false, false, false, false, false, false, false, false, false, false, false, false, false, false, false, false, false, false, false, false, false, false, false, false] rfl rfl (any_of HT_.out (by kernel_rfl)) (fun _ _ _ h => h) (Or.inl ⟨by rfl, ?_⟩) ?_ ?_
          rotate_left
          · intro w'
            go_simp
            try (with_reducible rfl)
          rotate_left
          · simp only [Act.put, List.setIfInBounds_toArray, List.set_cons_zero, List.set_cons_succ, i64_w, i32_w]
            rfl
          refine pure_ (i := 7) (N := some 120) (v := ?_) (a' := ?_) #[true, true, true, true, true, true, true, true, false, false, false, false, false, false, false, false, false, false, false, false, false, false, false, false, false, false, false, false, false, false, false, false, false] rfl rfl (any_of HT_.out (by kernel_rfl)) (fun _ _ _ h => h) (Or.inl ⟨by rfl, ?_⟩) ?_ ?_
          rotate_left
          · intro w'
            go_simp
            try (with_reducible rfl)
          rotate_left
          · simp only [Act.put, List.setIfInBounds_toArray, List.set_cons_zero, List.set_cons_succ, i64_w, i32_w]
            rfl
          refine pure_ (i := 8) (N := some 121) (v := ?_) (a' := ?_) #[true, true, true, true, true, true, true, true, true, false, false, false, false, false, false, false, false, false, false, false, false, false, false, false, false, false, false, false, false, false, false, false, false] rfl rfl (any_of HT_.out (by kernel_rfl)) (fun _ _ _ h => h) (Or.inl ⟨by rfl, ?_⟩) ?_ ?_
          rotate_left
          · intro w'
            go_simp
            try (with_reducible rfl)
          rotate_left
          · simp only [Act.put, List.setIfInBounds_toArray, List.set_cons_zero, List.set_cons_succ, i64_w, i32_w]
            rfl
          refine pure_ (i := 9) (N := some 122) (v := ?_) (a' := ?_) #[true, true, true, true, true, true, true, true, true, true, false, false, false, false, false, false, false, false, false, false, false, false, false, false, false, false, false, false, false, false, false, false, false] rfl rfl (any_of HT_.out (by kernel_rfl)) (fun _ _ _ h => h) (Or.inl ⟨by rfl, ?_⟩) ?_ ?_
          rotate_left
          · intro w'
            go_simp
            try (with_reducible rfl)
          rotate_left
          · simp only [Act.put, List.setIfInBounds_toArray, List.set_cons_zero, List.set_cons_succ, i64_w, i32_w]
            rfl
          refine pure_ (i := 10) (N := some 123) (v := ?_) (a' := ?_) #[true, true, true, true, true, true, true, true, true, true, true, false, false, false, false, false, false, false, false, false, false, false, false, false, false, false, false, false, false, false, false, false, false] rfl rfl (any_of HT_.out (by kernel_rfl)) (fun _ _ _ h => h) (Or.inl ⟨by rfl, ?_⟩) ?_ ?_
          rotate_left
          · intro w'
            go_simp
            try (with_reducible rfl)
          rotate_left
          · simp only [Act.put, List.setIfInBounds_toArray, List.set_cons_zero, List.set_cons_succ, i64_w, i32_w]
            rfl
          refine pure_ (i := 11) (N := some 124) (v := ?_) (a' := ?_) #[true, true, true, true, true, true, true, true, true, true, true, true, false, false, false, false, false, false, false, false, false, false, false, false, false, false, false, false, false, false, false, false, false] rfl rfl (any_of HT_.out (by kernel_rfl)) (fun _ _ _ h => h) (Or.inl ⟨by rfl, ?_⟩) ?_ ?_
          rotate_left
          · intro w'
            go_simp
            try (with_reducible rfl)
          rotate_left
          · simp only [Act.put, List.setIfInBounds_toArray, List.set_cons_zero, List.set_cons_succ, i64_w, i32_w]
            rfl
          refine pure_ (i := 12) (N := some 125) (v := ?_) (a' := ?_) #[true, true, true, true, true, true, true, true, true, true, true, true, true, false, false, false, false, false, false, false, false, false, false, false, false, false, false, false, false, false, false, false, false] rfl rfl (any_of HT_.out (by kernel_rfl)) (fun _ _ _ h => h) (Or.inl ⟨by rfl, ?_⟩) ?_ ?_
          rotate_left
          · intro w'
            go_simp
            try (with_reducible rfl)
          rotate_left
          · simp only [Act.put, List.setIfInBounds_toArray, List.set_cons_zero, List.set_cons_succ, i64_w, i32_w]
            rfl
          refine pure_ (i := 13) (N := some 126) (v := ?_) (a' := ?_) #[true, true, true, true, true, true, true, true, true, true, true, true, true, true, false, false, false, false, false, false, false, false, false, false, false, false, false, false, false, false, false, false, false] rfl rfl (any_of HT_.out (by kernel_rfl)) (fun _ _ _ h => h) (Or.inl ⟨by rfl, ?_⟩) ?_ ?_
          rotate_left
          · intro w'
            go_simp
            try (with_reducible rfl)
          rotate_left
          · simp only [Act.put, List.setIfInBounds_toArray, List.set_cons_zero, List.set_cons_succ, i64_w, i32_w]
            rfl
          refine pure_ (i := 14) (N := some 127) (v := ?_) (a' := ?_) #[true, true, true, true, true, true, true, true, true, true, true, true, true, true, true, false, false, false, false, false, false, false, false, false, false, false, false, false, false, false, false, false, false] rfl rfl (any_of HT_.out (by kernel_rfl)) (fun _ _ _ h => h) (Or.inl ⟨by rfl, ?_⟩) ?_ ?_
          rotate_left
          · intro w'
            go_simp
            try (with_reducible rfl)
          rotate_left
          · simp only [Act.put, List.setIfInBounds_toArray, List.set_cons_zero, List.set_cons_succ, i64_w, i32_w]
            rfl
          refine pure_ (i := 15) (N := some 128) (v := ?_) (a' := ?_) #[true, true, true, true, true, true, true, true, true, true, true, true, true, true, true, true, false, false, false, false, false, false, false, false, false, false, false, false, false, false, false, false, false] rfl rfl (any_of HT_.out (by kernel_rfl)) (fun _ _ _ h => h) (Or.inl ⟨by rfl, ?_⟩) ?_ ?_
          rotate_left
          · intro w'
            go_simp
            try (with_reducible rfl)
          rotate_left
          · simp only [Act.put, List.setIfInBounds_toArray, List.set_cons_zero, List.set_cons_succ, i64_w, i32_w]
            rfl
          refine pure_ (i := 16) (N := some 129) (v := ?_) (a' := ?_) #[true, true, true, true, true, true, true, true, true, true, true, true, true, true, true, true, true, false, false, false, false, false, false, false, false, false, false, false, false, false, false, false, false] rfl rfl (any_of HT_.out (by kernel_rfl)) (fun _ _ _ h => h) (Or.inl ⟨by rfl, ?_⟩) ?_ ?_
          rotate_left
          · intro w'
            go_simp
            try (with_reducible rfl)
          rotate_left
          · simp only [Act.put, List.setIfInBounds_toArray, List.set_cons_zero, List.set_cons_succ, i64_w, i32_w]
            rfl
          refine pure_ (i := 17) (N := some 130) (v := ?_) (a' := ?_) #[true, true, true, true, true, true, true, true, true, true, true, true, true, true, true, true, true, true, false, false, false, false, false, false, false, false, false, false, false, false, false, false, false] rfl rfl (any_of HT_.out (by kernel_rfl)) (fun _ _ _ h => h) (Or.inl ⟨by rfl, ?_⟩) ?_ ?_
          rotate_left
          · intro w'
            go_simp
            try (with_reducible rfl)
          rotate_left
          · simp only [Act.put, List.setIfInBounds_toArray, List.set_cons_zero, List.set_cons_succ, i64_w, i32_w]
            rfl
          refine pure_ (i := 18) (N := some 131) (v := ?_) (a' := ?_) #[true, true, true, true, true, true, true, true, true, true, true, true, true, true, true, true, true, true, true, false, false, false, false, false, false, false, false, false, false, false, false, false, false] rfl rfl (any_of HT_.out (by kernel_rfl)) (fun _ _ _ h => h) (Or.inl ⟨by rfl, ?_⟩) ?_ ?_
          rotate_left
          · intro w'
            go_simp
            try (with_reducible rfl)
          rotate_left
          · simp only [Act.put, List.setIfInBounds_toArray, List.set_cons_zero, List.set_cons_succ, i64_w, i32_w]
            rfl
          refine pure_ (i := 19) (N := some 132) (v := ?_) (a' := ?_) #[true, true, true, true, true, true, true, true, true, true, true, true, true, true, true, true, true, true, true, true, false, false, false, false, false, false, false, false, false, false, false, false, false] rfl rfl (any_of HT_.out (by kernel_rfl)) (fun _ _ _ h => h) (Or.inl ⟨by rfl, ?_⟩) ?_ ?_
          rotate_left
          · intro w'
            go_simp
            try (with_reducible rfl)
          rotate_left
          · simp only [Act.put, List.setIfInBounds_toArray, List.set_cons_zero, List.set_cons_succ, i64_w, i32_w]
            rfl
          refine pure_ (i := 20) (N := some 133) (v := ?_) (a' := ?_) #[true, true, true, true, true, true, true, true, true, true, true, true, true, true, true, true, true, true, true, true, true, false, false, false, false, false, false, false, false, false, false, false, false] rfl rfl (any_of HT_.out (by kernel_rfl)) (fun _ _ _ h => h) (Or.inl ⟨by rfl, ?_⟩) ?_ ?_
          rotate_left
          · intro w'
            go_simp
            try (with_reducible rfl)
          rotate_left
          · simp only [Act.put, List.setIfInBounds_toArray, List.set_cons_zero, List.set_cons_succ, i64_w, i32_w]
            rfl
          refine pure_ (i := 23) (N := some 136) (v := ?_) (a' := ?_) #[true, true, true, true, true, true, true, true, true, true, true, true, true, true, true, true, true, true, true, true, true, false, false, true, false, false, false, false, false, false, false, false, false] rfl rfl (any_of HT_.out (by kernel_rfl)) (fun _ _ _ h => h) (Or.inl ⟨by rfl, ?_⟩) ?_ ?_
          rotate_left
          · intro w'
            go_simp
            try (with_reducible rfl)
          rotate_left
          · simp only [Act.put, List.setIfInBounds_toArray, List.set_cons_zero, List.set_cons_succ, i64_w, i32_w]
            rfl
          refine pure_ (i := 26) (N := some 139) (v := ?_) (a' := ?_) #[true, true, true, true, true, true, true, true, true, true, true, true, true, true, true, true, true, true, true, true, true, false, false, true, false, false, true, false, false, false, false, false, false] rfl rfl (any_of HT_.out (by kernel_rfl)) (fun _ _ _ h => h) (Or.inl ⟨by rfl, ?_⟩) ?_ ?_
          rotate_left
          · intro w'
            go_simp
            try (with_reducible rfl)
          rotate_left
          · simp only [Act.put, List.setIfInBounds_toArray, List.set_cons_zero, List.set_cons_succ, i64_w, i32_w]
            rfl
          refine pure_ (i := 29) (N := some 142) (v := ?_) (a' := ?_) #[true, true, true, true, true, true, true, true, true, true, true, true, true, true, true, true, true, true, true, true, true, false, false, true, false, false, true, false, false, true, false, false, false] rfl rfl (any_of HT_.out (by kernel_rfl)) (fun _ _ _ h => h) (Or.inl ⟨by rfl, ?_⟩) ?_ ?_
          rotate_left
          · intro w'
            go_simp
            try (with_reducible rfl)
          rotate_left
          · simp only [Act.put, List.setIfInBounds_toArray, List.set_cons_zero, List.set_cons_succ, i64_w, i32_w]
            rfl
          refine join_ (σ := Option Addr × Nat) 4 #[true, true, true, true, true, true, true, true, true, true, true, true, true, true, true, true, true, true, true, true, true, true, true, true, true, true, true, true, false, true, false, false, false] (fun s_ => [(134, .slice s_.1 F.length s_.2), (135, .string sF), (137, .string sC), (138, .string (sF ++ sC)), (140, .string sT)]) (fun _ w' => Below w.heap.size w w') ?_ ?_
          rotate_left
          · intro hCont
            refine three_ (i := 21) (j := 24) (k := 27) (Ni := some 134) (Nj := some 137) (Nk := some 140) #[true, true, true, true, true, true, true, true, true, true, true, true, true, true, true, true, true, true, true, true, true, true, false, true, false, false, true, false, false, true, false, false, false] #[true, true, true, true, true, true, true, true, true, true, true, true, true, true, true, true, true, true, true, true, true, false, false, true, true, false, true, false, false, true, false, false, false] #[true, true, true, true, true, true, true, true, true, true, true, true, true, true, true, true, true, true, true, true, true, false, false, true, false, false, true, true, false, true, false, false, false] rfl rfl rfl rfl rfl rfl (three_of HT_.out (by kernel_rfl)) (by decide) (by decide) (by decide) (fun K hK => ?_) (fun K hK => ?_) (fun K hK => ?_)
            · skip
              refine goes_ Try.func29 (by kernel_rfl) rfl #[.slice aa b2.length ca] (by rfl) rfl rfl (by (try simp only [List.map_toArray, List.map_cons, List.map_nil]); first | done | rfl | (simp only [List.length_drop, List.length_take]; rfl)) ?_
              with_reducible refine (cbc_Fill.calls k aa ca b2 F wd (Kd.C_below SV.out.2.2.1 D11.out) LA.out H0.out).mono ?_
              rintro e w12 ⟨v12, rfl, hR12, hb12⟩
              refine ⟨_, rfl, ?_⟩
              obtain ⟨zA, zc, rfl⟩ := Kd.R_slice hR12
              have CZ := Aside0.mk (Kd.R_reads' hR12).2.2
              have D12 := Aside0.mk (D11.out.trans (hb12.mono D11.out.size))
              have HB12 := Aside0.mk (below_step (below_step SV.out.2.2.2 D11.out) hb12)
              clear hR12 hb12
              refine hK.out _ _ trivial (fun hHeld => ?_)
              clear hK K
              refine norm_ (a' := ?_) ?_ ?_
              rotate_left
              · show Act.put _ (some 134) _ = _
                simp only [Act.put, List.setIfInBounds_toArray, List.set_cons_zero, List.set_cons_succ, i64_w, i32_w]
                rfl
              refine three_ (i := 22) (j := 24) (k := 27) (Ni := some 135) (Nj := some 137) (Nk := some 140) #[true, true, true, true, true, true, true, true, true, true, true, true, true, true, true, true, true, true, true, true, true, true, true, true, false, false, true, false, false, true, false, false, false] #[true, true, true, true, true, true, true, true, true, true, true, true, true, true, true, true, true, true, true, true, true, true, false, true, true, false, true, false, false, true, false, false, false] #[true, true, true, true, true, true, true, true, true, true, true, true, true, true, true, true, true, true, true, true, true, true, false, true, false, false, true, true, false, true, false, false, false] rfl rfl rfl rfl rfl rfl (three_of HT_.out (by kernel_rfl)) (by decide) (by decide) (by decide) (fun K hK => ?_) (fun K hK => ?_) (fun K hK => ?_)
              · skip
                have hz1 := Kd.C_string (P := Try.prog) (c := zc) Try.underlying25 Try.underlying5 Try.underlying9 CZ.out
                rw [← HSS.out.1] at hz1
                refine value_ (w1 := ?_) (v := ?_) (by rfl) rfl ?_ ?_
                rotate_left 2
                · go_simp
                  constructor
                  · rfl
                  · rfl
                clear hz1
                refine hK.out _ _ trivial (fun hHeld => ?_)
                clear hK K
                refine norm_ (a' := ?_) ?_ ?_
                rotate_left
                · show Act.put _ (some 135) _ = _
                  simp only [Act.put, List.setIfInBounds_toArray, List.set_cons_zero, List.set_cons_succ, i64_w, i32_w]
                  rfl
                refine two_ (i := 24) (j := 27) (Ni := some 137) (Nj := some 140) #[true, true, true, true, true, true, true, true, true, true, true, true, true, true, true, true, true, true, true, true, true, true, true, true, true, false, true, false, false, true, false, false, false] #[true, true, true, true, true, true, true, true, true, true, true, true, true, true, true, true, true, true, true, true, true, true, true, true, false, false, true, true, false, true, false, false, false] rfl rfl rfl rfl (two_of HT_.out (by kernel_rfl)) (by decide) (by decide) (fun K hK => ?_) (fun K hK => ?_)
                · skip
                  have hu1 := HSU.out.1 w12 D12.out
                  refine value_ (w1 := ?_) (v := ?_) (by rfl) rfl ?_ ?_
                  rotate_left 2
                  · go_simp
                    constructor
                    · rfl
                    · rfl
                  clear hu1
                  refine hK.out _ _ trivial (fun hHeld => ?_)
                  clear hK K
                  refine norm_ (a' := ?_) ?_ ?_
                  rotate_left
                  · show Act.put _ (some 137) _ = _
                    simp only [Act.put, List.setIfInBounds_toArray, List.set_cons_zero, List.set_cons_succ, i64_w, i32_w]
                    rfl
                  refine two_ (i := 25) (j := 27) (Ni := some 138) (Nj := some 140) #[true, true, true, true, true, true, true, true, true, true, true, true, true, true, true, true, true, true, true, true, true, true, true, true, true, true, true, false, false, true, false, false, false] #[true, true, true, true, true, true, true, true, true, true, true, true, true, true, true, true, true, true, true, true, true, true, true, true, true, false, true, true, false, true, false, false, false] rfl rfl rfl rfl (two_of HT_.out (by kernel_rfl)) (by decide) (by decide) (fun K hK => ?_) (fun K hK => ?_)
                  · skip
                    refine value_ (w1 := ?_) (v := ?_) (by rfl) rfl ?_ ?_
                    rotate_left 2
                    · go_simp
                      constructor
                      · rfl
                      · rfl
                    refine hK.out _ _ trivial (fun hHeld => ?_)
                    clear hK K
                    refine norm_ (a' := ?_) ?_ ?_
                    rotate_left
                    · show Act.put _ (some 138) _ = _
                      simp only [Act.put, List.setIfInBounds_toArray, List.set_cons_zero, List.set_cons_succ, i64_w, i32_w]
                      rfl
                    refine one_ (i := 27) (N := some 140) #[true, true, true, true, true, true, true, true, true, true, true, true, true, true, true, true, true, true, true, true, true, true, true, true, true, true, true, true, false, true, false, false, false] rfl rfl (one_of HT_.out (by kernel_rfl)) (by decide) (fun K hK => ?_)
                    have hv1 := HSU.out.2 w12 D12.out
                    refine value_ (w1 := ?_) (v := ?_) (by rfl) rfl ?_ ?_
                    rotate_left 2
                    · go_simp
                      constructor
                      · rfl
                      · rfl
                    clear hv1
                    refine hK.out _ _ trivial (fun hHeld => ?_)
                    clear hK K
                    refine norm_ (a' := ?_) ?_ ?_
                    rotate_left
                    · show Act.put _ (some 140) _ = _
                      simp only [Act.put, List.setIfInBounds_toArray, List.set_cons_zero, List.set_cons_succ, i64_w, i32_w]
                      rfl
                    exact norm_ (by simp only [putAll, Act.put, List.setIfInBounds_toArray, List.set_cons_zero, List.set_cons_succ]) (hCont (zA, zc) _ HB12.out)
                  · skip
                    have hv1 := HSU.out.2 w12 D12.out
                    refine value_ (w1 := ?_) (v := ?_) (by rfl) rfl ?_ ?_
                    rotate_left 2
                    · go_simp
                      constructor
                      · rfl
                      · rfl
                    clear hv1
                    refine hK.out _ _ trivial (fun hHeld => ?_)
                    clear hK K
                    refine norm_ (a' := ?_) ?_ ?_
                    rotate_left
                    · show Act.put _ (some 140) _ = _
                      simp only [Act.put, List.setIfInBounds_toArray, List.set_cons_zero, List.set_cons_succ, i64_w, i32_w]
                      rfl
                    refine one_ (i := 25) (N := some 138) #[true, true, true, true, true, true, true, true, true, true, true, true, true, true, true, true, true, true, true, true, true, true, true, true, true, true, true, true, false, true, false, false, false] rfl rfl (one_of HT_.out (by kernel_rfl)) (by decide) (fun K hK => ?_)
                    refine value_ (w1 := ?_) (v := ?_) (by rfl) rfl ?_ ?_
                    rotate_left 2
                    · go_simp
                      constructor
                      · rfl
                      · rfl
                    refine hK.out _ _ trivial (fun hHeld => ?_)
                    clear hK K
                    refine norm_ (a' := ?_) ?_ ?_
                    rotate_left
                    · show Act.put _ (some 138) _ = _
                      simp only [Act.put, List.setIfInBounds_toArray, List.set_cons_zero, List.set_cons_succ, i64_w, i32_w]
                      rfl
                    exact norm_ (by simp only [putAll, Act.put, List.setIfInBounds_toArray, List.set_cons_zero, List.set_cons_succ]) (hCont (zA, zc) _ HB12.out)
                · skip
                  have hv1 := HSU.out.2 w12 D12.out
                  refine value_ (w1 := ?_) (v := ?_) (by rfl) rfl ?_ ?_
                  rotate_left 2
                  · go_simp
                    constructor
                    · rfl
                    · rfl
                  clear hv1
                  refine hK.out _ _ trivial (fun hHeld => ?_)
                  clear hK K
                  refine norm_ (a' := ?_) ?_ ?_
                  rotate_left
                  · show Act.put _ (some 140) _ = _
                    simp only [Act.put, List.setIfInBounds_toArray, List.set_cons_zero, List.set_cons_succ, i64_w, i32_w]
                    rfl
                  refine one_ (i := 24) (N := some 137) #[true, true, true, true, true, true, true, true, true, true, true, true, true, true, true, true, true, true, true, true, true, true, true, true, true, false, true, true, false, true, false, false, false] rfl rfl (one_of HT_.out (by kernel_rfl)) (by decide) (fun K hK => ?_)
                  have hu1 := HSU.out.1 w12 D12.out
                  refine value_ (w1 := ?_) (v := ?_) (by rfl) rfl ?_ ?_
                  rotate_left 2
                  · go_simp
                    constructor
                    · rfl
                    · rfl
                  clear hu1
                  refine hK.out _ _ trivial (fun hHeld => ?_)
                  clear hK K
                  refine norm_ (a' := ?_) ?_ ?_
                  rotate_left
                  · show Act.put _ (some 137) _ = _
                    simp only [Act.put, List.setIfInBounds_toArray, List.set_cons_zero, List.set_cons_succ, i64_w, i32_w]
                    rfl
                  refine one_ (i := 25) (N := some 138) #[true, true, true, true, true, true, true, true, true, true, true, true, true, true, true, true, true, true, true, true, true, true, true, true, true, true, true, true, false, true, false, false, false] rfl rfl (one_of HT_.out (by kernel_rfl)) (by decide) (fun K hK => ?_)
                  refine value_ (w1 := ?_) (v := ?_) (by rfl) rfl ?_ ?_
                  rotate_left 2
                  · go_simp
                    constructor
                    · rfl
                    · rfl
                  refine hK.out _ _ trivial (fun hHeld => ?_)
                  clear hK K
                  refine norm_ (a' := ?_) ?_ ?_
                  rotate_left
                  · show Act.put _ (some 138) _ = _
                    simp only [Act.put, List.setIfInBounds_toArray, List.set_cons_zero, List.set_cons_succ, i64_w, i32_w]
                    rfl
                  exact norm_ (by simp only [putAll, Act.put, List.setIfInBounds_toArray, List.set_cons_zero, List.set_cons_succ]) (hCont (zA, zc) _ HB12.out)
              · skip
                have hu1 := HSU.out.1 w12 D12.out
                refine value_ (w1 := ?_) (v := ?_) (by rfl) rfl ?_ ?_
                rotate_left 2
                · go_simp
                  constructor
                  · rfl
                  · rfl
                clear hu1
                refine hK.out _ _ trivial (fun hHeld => ?_)
                clear hK K
                refine norm_ (a' := ?_) ?_ ?_
                rotate_left
                · show Act.put _ (some 137) _ = _
                  simp only [Act.put, List.setIfInBounds_toArray, List.set_cons_zero, List.set_cons_succ, i64_w, i32_w]
                  rfl
                refine two_ (i := 22) (j := 27) (Ni := some 135) (Nj := some 140) #[true, true, true, true, true, true, true, true, true, true, true, true, true, true, true, true, true, true, true, true, true, true, true, true, true, false, true, false, false, true, false, false, false] #[true, true, true, true, true, true, true, true, true, true, true, true, true, true, true, true, true, true, true, true, true, true, false, true, true, false, true, true, false, true, false, false, false] rfl rfl rfl rfl (two_of HT_.out (by kernel_rfl)) (by decide) (by decide) (fun K hK => ?_) (fun K hK => ?_)
                · skip
                  have hz1 := Kd.C_string (P := Try.prog) (c := zc) Try.underlying25 Try.underlying5 Try.underlying9 CZ.out
                  rw [← HSS.out.1] at hz1
                  refine value_ (w1 := ?_) (v := ?_) (by rfl) rfl ?_ ?_
                  rotate_left 2
                  · go_simp
                    constructor
                    · rfl
                    · rfl
                  clear hz1
                  refine hK.out _ _ trivial (fun hHeld => ?_)
                  clear hK K
                  refine norm_ (a' := ?_) ?_ ?_
                  rotate_left
                  · show Act.put _ (some 135) _ = _
                    simp only [Act.put, List.setIfInBounds_toArray, List.set_cons_zero, List.set_cons_succ, i64_w, i32_w]
                    rfl
                  refine two_ (i := 25) (j := 27) (Ni := some 138) (Nj := some 140) #[true, true, true, true, true, true, true, true, true, true, true, true, true, true, true, true, true, true, true, true, true, true, true, true, true, true, true, false, false, true, false, false, false] #[true, true, true, true, true, true, true, true, true, true, true, true, true, true, true, true, true, true, true, true, true, true, true, true, true, false, true, true, false, true, false, false, false] rfl rfl rfl rfl (two_of HT_.out (by kernel_rfl)) (by decide) (by decide) (fun K hK => ?_) (fun K hK => ?_)
                  · skip
                    refine value_ (w1 := ?_) (v := ?_) (by rfl) rfl ?_ ?_
                    rotate_left 2
                    · go_simp
                      constructor
                      · rfl
                      · rfl
                    refine hK.out _ _ trivial (fun hHeld => ?_)
                    clear hK K
                    refine norm_ (a' := ?_) ?_ ?_
                    rotate_left
                    · show Act.put _ (some 138) _ = _
                      simp only [Act.put, List.setIfInBounds_toArray, List.set_cons_zero, List.set_cons_succ, i64_w, i32_w]
                      rfl
                    refine one_ (i := 27) (N := some 140) #[true, true, true, true, true, true, true, true, true, true, true, true, true, true, true, true, true, true, true, true, true, true, true, true, true, true, true, true, false, true, false, false, false] rfl rfl (one_of HT_.out (by kernel_rfl)) (by decide) (fun K hK => ?_)
                    have hv1 := HSU.out.2 w12 D12.out
                    refine value_ (w1 := ?_) (v := ?_) (by rfl) rfl ?_ ?_
                    rotate_left 2
                    · go_simp
                      constructor
                      · rfl
                      · rfl
                    clear hv1
                    refine hK.out _ _ trivial (fun hHeld => ?_)
                    clear hK K
                    refine norm_ (a' := ?_) ?_ ?_
                    rotate_left
                    · show Act.put _ (some 140) _ = _
                      simp only [Act.put, List.setIfInBounds_toArray, List.set_cons_zero, List.set_cons_succ, i64_w, i32_w]
                      rfl
                    exact norm_ (by simp only [putAll, Act.put, List.setIfInBounds_toArray, List.set_cons_zero, List.set_cons_succ]) (hCont (zA, zc) _ HB12.out)
                  · skip
                    have hv1 := HSU.out.2 w12 D12.out
                    refine value_ (w1 := ?_) (v := ?_) (by rfl) rfl ?_ ?_
                    rotate_left 2
                    · go_simp
                      constructor
                      · rfl
                      · rfl
                    clear hv1
                    refine hK.out _ _ trivial (fun hHeld => ?_)
                    clear hK K
                    refine norm_ (a' := ?_) ?_ ?_
                    rotate_left
                    · show Act.put _ (some 140) _ = _
                      simp only [Act.put, List.setIfInBounds_toArray, List.set_cons_zero, List.set_cons_succ, i64_w, i32_w]
                      rfl
                    refine one_ (i := 25) (N := some 138) #[true, true, true, true, true, true, true, true, true, true, true, true, true, true, true, true, true, true, true, true, true, true, true, true, true, true, true, true, false, true, false, false, false] rfl rfl (one_of HT_.out (by kernel_rfl)) (by decide) (fun K hK => ?_)
                    refine value_ (w1 := ?_) (v := ?_) (by rfl) rfl ?_ ?_
                    rotate_left 2
                    · go_simp
                      constructor
                      · rfl
                      · rfl
                    refine hK.out _ _ trivial (fun hHeld => ?_)
                    clear hK K
                    refine norm_ (a' := ?_) ?_ ?_
                    rotate_left
                    · show Act.put _ (some 138) _ = _
                      simp only [Act.put, List.setIfInBounds_toArray, List.set_cons_zero, List.set_cons_succ, i64_w, i32_w]
                      rfl
                    exact norm_ (by simp only [putAll, Act.put, List.setIfInBounds_toArray, List.set_cons_zero, List.set_cons_succ]) (hCont (zA, zc) _ HB12.out)
                · skip
                  have hv1 := HSU.out.2 w12 D12.out
                  refine value_ (w1 := ?_) (v := ?_) (by rfl) rfl ?_ ?_
                  rotate_left 2
                  · go_simp
                    constructor
                    · rfl
                    · rfl
                  clear hv1
                  refine hK.out _ _ trivial (fun hHeld => ?_)
                  clear hK K
                  refine norm_ (a' := ?_) ?_ ?_
                  rotate_left
                  · show Act.put _ (some 140) _ = _
                    simp only [Act.put, List.setIfInBounds_toArray, List.set_cons_zero, List.set_cons_succ, i64_w, i32_w]
                    rfl
                  refine one_ (i := 22) (N := some 135) #[true, true, true, true, true, true, true, true, true, true, true, true, true, true, true, true, true, true, true, true, true, true, true, true, true, false, true, true, false, true, false, false, false] rfl rfl (one_of HT_.out (by kernel_rfl)) (by decide) (fun K hK => ?_)
                  have hz1 := Kd.C_string (P := Try.prog) (c := zc) Try.underlying25 Try.underlying5 Try.underlying9 CZ.out
                  rw [← HSS.out.1] at hz1
                  refine value_ (w1 := ?_) (v := ?_) (by rfl) rfl ?_ ?_
                  rotate_left 2
                  · go_simp
                    constructor
                    · rfl
                    · rfl
                  clear hz1
                  refine hK.out _ _ trivial (fun hHeld => ?_)
                  clear hK K
                  refine norm_ (a' := ?_) ?_ ?_
                  rotate_left
                  · show Act.put _ (some 135) _ = _
                    simp only [Act.put, List.setIfInBounds_toArray, List.set_cons_zero, List.set_cons_succ, i64_w, i32_w]
                    rfl
                  refine one_ (i := 25) (N := some 138) #[true, true, true, true, true, true, true, true, true, true, true, true, true, true, true, true, true, true, true, true, true, true, true, true, true, true, true, true, false, true, false, false, false] rfl rfl (one_of HT_.out (by kernel_rfl)) (by decide) (fun K hK => ?_)
                  refine value_ (w1 := ?_) (v := ?_) (by rfl) rfl ?_ ?_
                  rotate_left 2
                  · go_simp
                    constructor
                    · rfl
                    · rfl
                  refine hK.out _ _ trivial (fun hHeld => ?_)
                  clear hK K
                  refine norm_ (a' := ?_) ?_ ?_
                  rotate_left
                  · show Act.put _ (some 138) _ = _
                    simp only [Act.put, List.setIfInBounds_toArray, List.set_cons_zero, List.set_cons_succ, i64_w, i32_w]
                    rfl
                  exact norm_ (by simp only [putAll, Act.put, List.setIfInBounds_toArray, List.set_cons_zero, List.set_cons_succ]) (hCont (zA, zc) _ HB12.out)
              · skip
                have hv1 := HSU.out.2 w12 D12.out
                refine value_ (w1 := ?_) (v := ?_) (by rfl) rfl ?_ ?_
                rotate_left 2
                · go_simp
                  constructor
                  · rfl
                  · rfl
                clear hv1
                refine hK.out _ _ trivial (fun hHeld => ?_)
                clear hK K
                refine norm_ (a' := ?_) ?_ ?_
                rotate_left
                · show Act.put _ (some 140) _ = _
                  simp only [Act.put, List.setIfInBounds_toArray, List.set_cons_zero, List.set_cons_succ, i64_w, i32_w]
                  rfl
                refine two_ (i := 22) (j := 24) (Ni := some 135) (Nj := some 137) #[true, true, true, true, true, true, true, true, true, true, true, true, true, true, true, true, true, true, true, true, true, true, true, true, false, false, true, true, false, true, false, false, false] #[true, true, true, true, true, true, true, true, true, true, true, true, true, true, true, true, true, true, true, true, true, true, false, true, true, false, true, true, false, true, false, false, false] rfl rfl rfl rfl (two_of HT_.out (by kernel_rfl)) (by decide) (by decide) (fun K hK => ?_) (fun K hK => ?_)
                · skip
                  have hz1 := Kd.C_string (P := Try.prog) (c := zc) Try.underlying25 Try.underlying5 Try.underlying9 CZ.out
                  rw [← HSS.out.1] at hz1
                  refine value_ (w1 := ?_) (v := ?_) (by rfl) rfl ?_ ?_
                  rotate_left 2
                  · go_simp
                    constructor
                    · rfl
                    · rfl
                  clear hz1
                  refine hK.out _ _ trivial (fun hHeld => ?_)
                  clear hK K
                  refine norm_ (a' := ?_) ?_ ?_
                  rotate_left
                  · show Act.put _ (some 135) _ = _
                    simp only [Act.put, List.setIfInBounds_toArray, List.set_cons_zero, List.set_cons_succ, i64_w, i32_w]
                    rfl
                  refine one_ (i := 24) (N := some 137) #[true, true, true, true, true, true, true, true, true, true, true, true, true, true, true, true, true, true, true, true, true, true, true, true, true, false, true, true, false, true, false, false, false] rfl rfl (one_of HT_.out (by kernel_rfl)) (by decide) (fun K hK => ?_)
                  have hu1 := HSU.out.1 w12 D12.out
                  refine value_ (w1 := ?_) (v := ?_) (by rfl) rfl ?_ ?_
                  rotate_left 2
                  · go_simp
                    constructor
                    · rfl
                    · rfl
                  clear hu1
                  refine hK.out _ _ trivial (fun hHeld => ?_)
                  clear hK K
                  refine norm_ (a' := ?_) ?_ ?_
                  rotate_left
                  · show Act.put _ (some 137) _ = _
                    simp only [Act.put, List.setIfInBounds_toArray, List.set_cons_zero, List.set_cons_succ, i64_w, i32_w]
                    rfl
                  refine one_ (i := 25) (N := some 138) #[true, true, true, true, true, true, true, true, true, true, true, true, true, true, true, true, true, true, true, true, true, true, true, true, true, true, true, true, false, true, false, false, false] rfl rfl (one_of HT_.out (by kernel_rfl)) (by decide) (fun K hK => ?_)
                  refine value_ (w1 := ?_) (v := ?_) (by rfl) rfl ?_ ?_
                  rotate_left 2
                  · go_simp
                    constructor
                    · rfl
                    · rfl
                  refine hK.out _ _ trivial (fun hHeld => ?_)
                  clear hK K
                  refine norm_ (a' := ?_) ?_ ?_
                  rotate_left
                  · show Act.put _ (some 138) _ = _
                    simp only [Act.put, List.setIfInBounds_toArray, List.set_cons_zero, List.set_cons_succ, i64_w, i32_w]
                    rfl
                  exact norm_ (by simp only [putAll, Act.put, List.setIfInBounds_toArray, List.set_cons_zero, List.set_cons_succ]) (hCont (zA, zc) _ HB12.out)
                · skip
                  have hu1 := HSU.out.1 w12 D12.out
                  refine value_ (w1 := ?_) (v := ?_) (by rfl) rfl ?_ ?_
                  rotate_left 2
                  · go_simp
                    constructor
                    · rfl
                    · rfl
                  clear hu1
                  refine hK.out _ _ trivial (fun hHeld => ?_)
                  clear hK K
                  refine norm_ (a' := ?_) ?_ ?_
                  rotate_left
                  · show Act.put _ (some 137) _ = _
                    simp only [Act.put, List.setIfInBounds_toArray, List.set_cons_zero, List.set_cons_succ, i64_w, i32_w]
                    rfl
                  refine one_ (i := 22) (N := some 135) #[true, true, true, true, true, true, true, true, true, true, true, true, true, true, true, true, true, true, true, true, true, true, true, true, true, false, true, true, false, true, false, false, false] rfl rfl (one_of HT_.out (by kernel_rfl)) (by decide) (fun K hK => ?_)
                  have hz1 := Kd.C_string (P := Try.prog) (c := zc) Try.underlying25 Try.underlying5 Try.underlying9 CZ.out
                  rw [← HSS.out.1] at hz1
                  refine value_ (w1 := ?_) (v := ?_) (by rfl) rfl ?_ ?_
                  rotate_left 2
                  · go_simp
                    constructor
                    · rfl
                    · rfl
                  clear hz1
                  refine hK.out _ _ trivial (fun hHeld => ?_)
                  clear hK K
                  refine norm_ (a' := ?_) ?_ ?_
                  rotate_left
                  · show Act.put _ (some 135) _ = _
                    simp only [Act.put, List.setIfInBounds_toArray, List.set_cons_zero, List.set_cons_succ, i64_w, i32_w]
                    rfl
                  refine one_ (i := 25) (N := some 138) #[true, true, true, true, true, true, true, true, true, true, true, true, true, true, true, true, true, true, true, true, true, true, true, true, true, true, true, true, false, true, false, false, false] rfl rfl (one_of HT_.out (by kernel_rfl)) (by decide) (fun K hK => ?_)
                  refine value_ (w1 := ?_) (v := ?_) (by rfl) rfl ?_ ?_
                  rotate_left 2
                  · go_simp
                    constructor
                    · rfl
                    · rfl
                  refine hK.out _ _ trivial (fun hHeld => ?_)
                  clear hK K
                  refine norm_ (a' := ?_) ?_ ?_
                  rotate_left
                  · show Act.put _ (some 138) _ = _
                    simp only [Act.put, List.setIfInBounds_toArray, List.set_cons_zero, List.set_cons_succ, i64_w, i32_w]
                    rfl
                  exact norm_ (by simp only [putAll, Act.put, List.setIfInBounds_toArray, List.set_cons_zero, List.set_cons_succ]) (hCont (zA, zc) _ HB12.out)
            · skip
              have hu1 := HSU.out.1 wd D11.out
              refine value_ (w1 := ?_) (v := ?_) (by rfl) rfl ?_ ?_
              rotate_left 2
              · go_simp
                constructor
                · rfl
                · rfl
              clear hu1
              refine hK.out _ _ trivial (fun hHeld => ?_)
              clear hK K
              refine norm_ (a' := ?_) ?_ ?_
              rotate_left
              · show Act.put _ (some 137) _ = _
                simp only [Act.put, List.setIfInBounds_toArray, List.set_cons_zero, List.set_cons_succ, i64_w, i32_w]
                rfl
              refine two_ (i := 21) (j := 27) (Ni := some 134) (Nj := some 140) #[true, true, true, true, true, true, true, true, true, true, true, true, true, true, true, true, true, true, true, true, true, true, false, true, true, false, true, false, false, true, false, false, false] #[true, true, true, true, true, true, true, true, true, true, true, true, true, true, true, true, true, true, true, true, true, false, false, true, true, false, true, true, false, true, false, false, false] rfl rfl rfl rfl (two_of HT_.out (by kernel_rfl)) (by decide) (by decide) (fun K hK => ?_) (fun K hK => ?_)
              · skip
                refine goes_ Try.func29 (by kernel_rfl) rfl #[.slice aa b2.length ca] (by rfl) rfl rfl (by (try simp only [List.map_toArray, List.map_cons, List.map_nil]); first | done | rfl | (simp only [List.length_drop, List.length_take]; rfl)) ?_
                with_reducible refine (cbc_Fill.calls k aa ca b2 F wd (Kd.C_below SV.out.2.2.1 D11.out) LA.out H0.out).mono ?_
                rintro e w12 ⟨v12, rfl, hR12, hb12⟩
                refine ⟨_, rfl, ?_⟩
                obtain ⟨zA, zc, rfl⟩ := Kd.R_slice hR12
                have CZ := Aside0.mk (Kd.R_reads' hR12).2.2
                have D12 := Aside0.mk (D11.out.trans (hb12.mono D11.out.size))
                have HB12 := Aside0.mk (below_step (below_step SV.out.2.2.2 D11.out) hb12)
                clear hR12 hb12
                refine hK.out _ _ trivial (fun hHeld => ?_)
                clear hK K
                refine norm_ (a' := ?_) ?_ ?_
                rotate_left
                · show Act.put _ (some 134) _ = _
                  simp only [Act.put, List.setIfInBounds_toArray, List.set_cons_zero, List.set_cons_succ, i64_w, i32_w]
                  rfl
                refine two_ (i := 22) (j := 27) (Ni := some 135) (Nj := some 140) #[true, true, true, true, true, true, true, true, true, true, true, true, true, true, true, true, true, true, true, true, true, true, true, true, true, false, true, false, false, true, false, false, false] #[true, true, true, true, true, true, true, true, true, true, true, true, true, true, true, true, true, true, true, true, true, true, false, true, true, false, true, true, false, true, false, false, false] rfl rfl rfl rfl (two_of HT_.out (by kernel_rfl)) (by decide) (by decide) (fun K hK => ?_) (fun K hK => ?_)
                · skip
                  have hz1 := Kd.C_string (P := Try.prog) (c := zc) Try.underlying25 Try.underlying5 Try.underlying9 CZ.out
                  rw [← HSS.out.1] at hz1
                  refine value_ (w1 := ?_) (v := ?_) (by rfl) rfl ?_ ?_
                  rotate_left 2
                  · go_simp
                    constructor
                    · rfl
                    · rfl
                  clear hz1
                  refine hK.out _ _ trivial (fun hHeld => ?_)
                  clear hK K
                  refine norm_ (a' := ?_) ?_ ?_
                  rotate_left
                  · show Act.put _ (some 135) _ = _
                    simp only [Act.put, List.setIfInBounds_toArray, List.set_cons_zero, List.set_cons_succ, i64_w, i32_w]
                    rfl
                  refine two_ (i := 25) (j := 27) (Ni := some 138) (Nj := some 140) #[true, true, true, true, true, true, true, true, true, true, true, true, true, true, true, true, true, true, true, true, true, true, true, true, true, true, true, false, false, true, false, false, false] #[true, true, true, true, true, true, true, true, true, true, true, true, true, true, true, true, true, true, true, true, true, true, true, true, true, false, true, true, false, true, false, false, false] rfl rfl rfl rfl (two_of HT_.out (by kernel_rfl)) (by decide) (by decide) (fun K hK => ?_) (fun K hK => ?_)
                  · skip
                    refine value_ (w1 := ?_) (v := ?_) (by rfl) rfl ?_ ?_
                    rotate_left 2
                    · go_simp
                      constructor
                      · rfl
                      · rfl
                    refine hK.out _ _ trivial (fun hHeld => ?_)
                    clear hK K
                    refine norm_ (a' := ?_) ?_ ?_
                    rotate_left
                    · show Act.put _ (some 138) _ = _
                      simp only [Act.put, List.setIfInBounds_toArray, List.set_cons_zero, List.set_cons_succ, i64_w, i32_w]
                      rfl
                    refine one_ (i := 27) (N := some 140) #[true, true, true, true, true, true, true, true, true, true, true, true, true, true, true, true, true, true, true, true, true, true, true, true, true, true, true, true, false, true, false, false, false] rfl rfl (one_of HT_.out (by kernel_rfl)) (by decide) (fun K hK => ?_)
                    have hv1 := HSU.out.2 w12 D12.out
                    refine value_ (w1 := ?_) (v := ?_) (by rfl) rfl ?_ ?_
                    rotate_left 2
                    · go_simp
                      constructor
                      · rfl
                      · rfl
                    clear hv1
                    refine hK.out _ _ trivial (fun hHeld => ?_)
                    clear hK K
                    refine norm_ (a' := ?_) ?_ ?_
                    rotate_left
                    · show Act.put _ (some 140) _ = _
                      simp only [Act.put, List.setIfInBounds_toArray, List.set_cons_zero, List.set_cons_succ, i64_w, i32_w]
                      rfl
                    exact norm_ (by simp only [putAll, Act.put, List.setIfInBounds_toArray, List.set_cons_zero, List.set_cons_succ]) (hCont (zA, zc) _ HB12.out)
                  · skip
                    have hv1 := HSU.out.2 w12 D12.out
                    refine value_ (w1 := ?_) (v := ?_) (by rfl) rfl ?_ ?_
                    rotate_left 2
                    · go_simp
                      constructor
                      · rfl
                      · rfl
                    clear hv1
                    refine hK.out _ _ trivial (fun hHeld => ?_)
                    clear hK K
                    refine norm_ (a' := ?_) ?_ ?_
                    rotate_left
                    · show Act.put _ (some 140) _ = _
                      simp only [Act.put, List.setIfInBounds_toArray, List.set_cons_zero, List.set_cons_succ, i64_w, i32_w]
                      rfl
                    refine one_ (i := 25) (N := some 138) #[true, true, true, true, true, true, true, true, true, true, true, true, true, true, true, true, true, true, true, true, true, true, true, true, true, true, true, true, false, true, false, false, false] rfl rfl (one_of HT_.out (by kernel_rfl)) (by decide) (fun K hK => ?_)
                    refine value_ (w1 := ?_) (v := ?_) (by rfl) rfl ?_ ?_
                    rotate_left 2
                    · go_simp
                      constructor
                      · rfl
                      · rfl
                    refine hK.out _ _ trivial (fun hHeld => ?_)
                    clear hK K
                    refine norm_ (a' := ?_) ?_ ?_
                    rotate_left
                    · show Act.put _ (some 138) _ = _
                      simp only [Act.put, List.setIfInBounds_toArray, List.set_cons_zero, List.set_cons_succ, i64_w, i32_w]
                      rfl
                    exact norm_ (by simp only [putAll, Act.put, List.setIfInBounds_toArray, List.set_cons_zero, List.set_cons_succ]) (hCont (zA, zc) _ HB12.out)
                · skip
                  have hv1 := HSU.out.2 w12 D12.out
                  refine value_ (w1 := ?_) (v := ?_) (by rfl) rfl ?_ ?_
                  rotate_left 2
                  · go_simp
                    constructor
                    · rfl
                    · rfl
                  clear hv1
                  refine hK.out _ _ trivial (fun hHeld => ?_)
                  clear hK K
                  refine norm_ (a' := ?_) ?_ ?_
                  rotate_left
                  · show Act.put _ (some 140) _ = _
                    simp only [Act.put, List.setIfInBounds_toArray, List.set_cons_zero, List.set_cons_succ, i64_w, i32_w]
                    rfl
                  refine one_ (i := 22) (N := some 135) #[true, true, true, true, true, true, true, true, true, true, true, true, true, true, true, true, true, true, true, true, true, true, true, true, true, false, true, true, false, true, false, false, false] rfl rfl (one_of HT_.out (by kernel_rfl)) (by decide) (fun K hK => ?_)
                  have hz1 := Kd.C_string (P := Try.prog) (c := zc) Try.underlying25 Try.underlying5 Try.underlying9 CZ.out
                  rw [← HSS.out.1] at hz1
                  refine value_ (w1 := ?_) (v := ?_) (by rfl) rfl ?_ ?_
                  rotate_left 2
                  · go_simp
                    constructor
                    · rfl
                    · rfl
                  clear hz1
                  refine hK.out _ _ trivial (fun hHeld => ?_)
                  clear hK K
                  refine norm_ (a' := ?_) ?_ ?_
                  rotate_left
                  · show Act.put _ (some 135) _ = _
                    simp only [Act.put, List.setIfInBounds_toArray, List.set_cons_zero, List.set_cons_succ, i64_w, i32_w]
                    rfl
                  refine one_ (i := 25) (N := some 138) #[true, true, true, true, true, true, true, true, true, true, true, true, true, true, true, true, true, true, true, true, true, true, true, true, true, true, true, true, false, true, false, false, false] rfl rfl (one_of HT_.out (by kernel_rfl)) (by decide) (fun K hK => ?_)
                  refine value_ (w1 := ?_) (v := ?_) (by rfl) rfl ?_ ?_
                  rotate_left 2
                  · go_simp
                    constructor
                    · rfl
                    · rfl
                  refine hK.out _ _ trivial (fun hHeld => ?_)
                  clear hK K
                  refine norm_ (a' := ?_) ?_ ?_
                  rotate_left
                  · show Act.put _ (some 138) _ = _
                    simp only [Act.put, List.setIfInBounds_toArray, List.set_cons_zero, List.set_cons_succ, i64_w, i32_w]
                    rfl
                  exact norm_ (by simp only [putAll, Act.put, List.setIfInBounds_toArray, List.set_cons_zero, List.set_cons_succ]) (hCont (zA, zc) _ HB12.out)
              · skip
                have hv1 := HSU.out.2 wd D11.out
                refine value_ (w1 := ?_) (v := ?_) (by rfl) rfl ?_ ?_
                rotate_left 2
                · go_simp
                  constructor
                  · rfl
                  · rfl
                clear hv1
                refine hK.out _ _ trivial (fun hHeld => ?_)
                clear hK K
                refine norm_ (a' := ?_) ?_ ?_
                rotate_left
                · show Act.put _ (some 140) _ = _
                  simp only [Act.put, List.setIfInBounds_toArray, List.set_cons_zero, List.set_cons_succ, i64_w, i32_w]
                  rfl
                refine one_ (i := 21) (N := some 134) #[true, true, true, true, true, true, true, true, true, true, true, true, true, true, true, true, true, true, true, true, true, true, false, true, true, false, true, true, false, true, false, false, false] rfl rfl (one_of HT_.out (by kernel_rfl)) (by decide) (fun K hK => ?_)
                refine goes_ Try.func29 (by kernel_rfl) rfl #[.slice aa b2.length ca] (by rfl) rfl rfl (by (try simp only [List.map_toArray, List.map_cons, List.map_nil]); first | done | rfl | (simp only [List.length_drop, List.length_take]; rfl)) ?_
                with_reducible refine (cbc_Fill.calls k aa ca b2 F wd (Kd.C_below SV.out.2.2.1 D11.out) LA.out H0.out).mono ?_
                rintro e w12 ⟨v12, rfl, hR12, hb12⟩
                refine ⟨_, rfl, ?_⟩
                obtain ⟨zA, zc, rfl⟩ := Kd.R_slice hR12
                have CZ := Aside0.mk (Kd.R_reads' hR12).2.2
                have D12 := Aside0.mk (D11.out.trans (hb12.mono D11.out.size))
                have HB12 := Aside0.mk (below_step (below_step SV.out.2.2.2 D11.out) hb12)
                clear hR12 hb12
                refine hK.out _ _ trivial (fun hHeld => ?_)
                clear hK K
                refine norm_ (a' := ?_) ?_ ?_
                rotate_left
                · show Act.put _ (some 134) _ = _
                  simp only [Act.put, List.setIfInBounds_toArray, List.set_cons_zero, List.set_cons_succ, i64_w, i32_w]
                  rfl
                refine one_ (i := 22) (N := some 135) #[true, true, true, true, true, true, true, true, true, true, true, true, true, true, true, true, true, true, true, true, true, true, true, true, true, false, true, true, false, true, false, false, false] rfl rfl (one_of HT_.out (by kernel_rfl)) (by decide) (fun K hK => ?_)
                have hz1 := Kd.C_string (P := Try.prog) (c := zc) Try.underlying25 Try.underlying5 Try.underlying9 CZ.out
                rw [← HSS.out.1] at hz1
                refine value_ (w1 := ?_) (v := ?_) (by rfl) rfl ?_ ?_
                rotate_left 2
                · go_simp
                  constructor
                  · rfl
                  · rfl
                clear hz1
                refine hK.out _ _ trivial (fun hHeld => ?_)
                clear hK K
                refine norm_ (a' := ?_) ?_ ?_
                rotate_left
                · show Act.put _ (some 135) _ = _
                  simp only [Act.put, List.setIfInBounds_toArray, List.set_cons_zero, List.set_cons_succ, i64_w, i32_w]
                  rfl
                refine one_ (i := 25) (N := some 138) #[true, true, true, true, true, true, true, true, true, true, true, true, true, true, true, true, true, true, true, true, true, true, true, true, true, true, true, true, false, true, false, false, false] rfl rfl (one_of HT_.out (by kernel_rfl)) (by decide) (fun K hK => ?_)
                refine value_ (w1 := ?_) (v := ?_) (by rfl) rfl ?_ ?_
                rotate_left 2
                · go_simp
                  constructor
                  · rfl
                  · rfl
                refine hK.out _ _ trivial (fun hHeld => ?_)
                clear hK K
                refine norm_ (a' := ?_) ?_ ?_
                rotate_left
                · show Act.put _ (some 138) _ = _
                  simp only [Act.put, List.setIfInBounds_toArray, List.set_cons_zero, List.set_cons_succ, i64_w, i32_w]
                  rfl
                exact norm_ (by simp only [putAll, Act.put, List.setIfInBounds_toArray, List.set_cons_zero, List.set_cons_succ]) (hCont (zA, zc) _ HB12.out)
            · skip
              have hv1 := HSU.out.2 wd D11.out
              refine value_ (w1 := ?_) (v := ?_) (by rfl) rfl ?_ ?_
              rotate_left 2
              · go_simp
                constructor
                · rfl
                · rfl
              clear hv1
              refine hK.out _ _ trivial (fun hHeld => ?_)
              clear hK K
              refine norm_ (a' := ?_) ?_ ?_
              rotate_left
              · show Act.put _ (some 140) _ = _
                simp only [Act.put, List.setIfInBounds_toArray, List.set_cons_zero, List.set_cons_succ, i64_w, i32_w]
                rfl
              refine two_ (i := 21) (j := 24) (Ni := some 134) (Nj := some 137) #[true, true, true, true, true, true, true, true, true, true, true, true, true, true, true, true, true, true, true, true, true, true, false, true, false, false, true, true, false, true, false, false, false] #[true, true, true, true, true, true, true, true, true, true, true, true, true, true, true, true, true, true, true, true, true, false, false, true, true, false, true, true, false, true, false, false, false] rfl rfl rfl rfl (two_of HT_.out (by kernel_rfl)) (by decide) (by decide) (fun K hK => ?_) (fun K hK => ?_)
              · skip
                refine goes_ Try.func29 (by kernel_rfl) rfl #[.slice aa b2.length ca] (by rfl) rfl rfl (by (try simp only [List.map_toArray, List.map_cons, List.map_nil]); first | done | rfl | (simp only [List.length_drop, List.length_take]; rfl)) ?_
                with_reducible refine (cbc_Fill.calls k aa ca b2 F wd (Kd.C_below SV.out.2.2.1 D11.out) LA.out H0.out).mono ?_
                rintro e w12 ⟨v12, rfl, hR12, hb12⟩
                refine ⟨_, rfl, ?_⟩
                obtain ⟨zA, zc, rfl⟩ := Kd.R_slice hR12
                have CZ := Aside0.mk (Kd.R_reads' hR12).2.2
                have D12 := Aside0.mk (D11.out.trans (hb12.mono D11.out.size))
                have HB12 := Aside0.mk (below_step (below_step SV.out.2.2.2 D11.out) hb12)
                clear hR12 hb12
                refine hK.out _ _ trivial (fun hHeld => ?_)
                clear hK K
                refine norm_ (a' := ?_) ?_ ?_
                rotate_left
                · show Act.put _ (some 134) _ = _
                  simp only [Act.put, List.setIfInBounds_toArray, List.set_cons_zero, List.set_cons_succ, i64_w, i32_w]
                  rfl
                refine two_ (i := 22) (j := 24) (Ni := some 135) (Nj := some 137) #[true, true, true, true, true, true, true, true, true, true, true, true, true, true, true, true, true, true, true, true, true, true, true, true, false, false, true, true, false, true, false, false, false] #[true, true, true, true, true, true, true, true, true, true, true, true, true, true, true, true, true, true, true, true, true, true, false, true, true, false, true, true, false, true, false, false, false] rfl rfl rfl rfl (two_of HT_.out (by kernel_rfl)) (by decide) (by decide) (fun K hK => ?_) (fun K hK => ?_)
                · skip
                  have hz1 := Kd.C_string (P := Try.prog) (c := zc) Try.underlying25 Try.underlying5 Try.underlying9 CZ.out
                  rw [← HSS.out.1] at hz1
                  refine value_ (w1 := ?_) (v := ?_) (by rfl) rfl ?_ ?_
                  rotate_left 2
                  · go_simp
                    constructor
                    · rfl
                    · rfl
                  clear hz1
                  refine hK.out _ _ trivial (fun hHeld => ?_)
                  clear hK K
                  refine norm_ (a' := ?_) ?_ ?_
                  rotate_left
                  · show Act.put _ (some 135) _ = _
                    simp only [Act.put, List.setIfInBounds_toArray, List.set_cons_zero, List.set_cons_succ, i64_w, i32_w]
                    rfl
                  refine one_ (i := 24) (N := some 137) #[true, true, true, true, true, true, true, true, true, true, true, true, true, true, true, true, true, true, true, true, true, true, true, true, true, false, true, true, false, true, false, false, false] rfl rfl (one_of HT_.out (by kernel_rfl)) (by decide) (fun K hK => ?_)
                  have hu1 := HSU.out.1 w12 D12.out
                  refine value_ (w1 := ?_) (v := ?_) (by rfl) rfl ?_ ?_
                  rotate_left 2
                  · go_simp
                    constructor
                    · rfl
                    · rfl
                  clear hu1
                  refine hK.out _ _ trivial (fun hHeld => ?_)
                  clear hK K
                  refine norm_ (a' := ?_) ?_ ?_
                  rotate_left
                  · show Act.put _ (some 137) _ = _
                    simp only [Act.put, List.setIfInBounds_toArray, List.set_cons_zero, List.set_cons_succ, i64_w, i32_w]
                    rfl
                  refine one_ (i := 25) (N := some 138) #[true, true, true, true, true, true, true, true, true, true, true, true, true, true, true, true, true, true, true, true, true, true, true, true, true, true, true, true, false, true, false, false, false] rfl rfl (one_of HT_.out (by kernel_rfl)) (by decide) (fun K hK => ?_)
                  refine value_ (w1 := ?_) (v := ?_) (by rfl) rfl ?_ ?_
                  rotate_left 2
                  · go_simp
                    constructor
                    · rfl
                    · rfl
                  refine hK.out _ _ trivial (fun hHeld => ?_)
                  clear hK K
                  refine norm_ (a' := ?_) ?_ ?_
                  rotate_left
                  · show Act.put _ (some 138) _ = _
                    simp only [Act.put, List.setIfInBounds_toArray, List.set_cons_zero, List.set_cons_succ, i64_w, i32_w]
                    rfl
                  exact norm_ (by simp only [putAll, Act.put, List.setIfInBounds_toArray, List.set_cons_zero, List.set_cons_succ]) (hCont (zA, zc) _ HB12.out)
                · skip
                  have hu1 := HSU.out.1 w12 D12.out
                  refine value_ (w1 := ?_) (v := ?_) (by rfl) rfl ?_ ?_
                  rotate_left 2
                  · go_simp
                    constructor
                    · rfl
                    · rfl
                  clear hu1
                  refine hK.out _ _ trivial (fun hHeld => ?_)
                  clear hK K
                  refine norm_ (a' := ?_) ?_ ?_
                  rotate_left
                  · show Act.put _ (some 137) _ = _
                    simp only [Act.put, List.setIfInBounds_toArray, List.set_cons_zero, List.set_cons_succ, i64_w, i32_w]
                    rfl
                  refine one_ (i := 22) (N := some 135) #[true, true, true, true, true, true, true, true, true, true, true, true, true, true, true, true, true, true, true, true, true, true, true, true, true, false, true, true, false, true, false, false, false] rfl rfl (one_of HT_.out (by kernel_rfl)) (by decide) (fun K hK => ?_)
                  have hz1 := Kd.C_string (P := Try.prog) (c := zc) Try.underlying25 Try.underlying5 Try.underlying9 CZ.out
                  rw [← HSS.out.1] at hz1
                  refine value_ (w1 := ?_) (v := ?_) (by rfl) rfl ?_ ?_
                  rotate_left 2
                  · go_simp
                    constructor
                    · rfl
                    · rfl
                  clear hz1
                  refine hK.out _ _ trivial (fun hHeld => ?_)
                  clear hK K
                  refine norm_ (a' := ?_) ?_ ?_
                  rotate_left
                  · show Act.put _ (some 135) _ = _
                    simp only [Act.put, List.setIfInBounds_toArray, List.set_cons_zero, List.set_cons_succ, i64_w, i32_w]
                    rfl
                  refine one_ (i := 25) (N := some 138) #[true, true, true, true, true, true, true, true, true, true, true, true, true, true, true, true, true, true, true, true, true, true, true, true, true, true, true, true, false, true, false, false, false] rfl rfl (one_of HT_.out (by kernel_rfl)) (by decide) (fun K hK => ?_)
                  refine value_ (w1 := ?_) (v := ?_) (by rfl) rfl ?_ ?_
                  rotate_left 2
                  · go_simp
                    constructor
                    · rfl
                    · rfl
                  refine hK.out _ _ trivial (fun hHeld => ?_)
                  clear hK K
                  refine norm_ (a' := ?_) ?_ ?_
                  rotate_left
                  · show Act.put _ (some 138) _ = _
                    simp only [Act.put, List.setIfInBounds_toArray, List.set_cons_zero, List.set_cons_succ, i64_w, i32_w]
                    rfl
                  exact norm_ (by simp only [putAll, Act.put, List.setIfInBounds_toArray, List.set_cons_zero, List.set_cons_succ]) (hCont (zA, zc) _ HB12.out)
              · skip
                have hu1 := HSU.out.1 wd D11.out
                refine value_ (w1 := ?_) (v := ?_) (by rfl) rfl ?_ ?_
                rotate_left 2
                · go_simp
                  constructor
                  · rfl
                  · rfl
                clear hu1
                refine hK.out _ _ trivial (fun hHeld => ?_)
                clear hK K
                refine norm_ (a' := ?_) ?_ ?_
                rotate_left
                · show Act.put _ (some 137) _ = _
                  simp only [Act.put, List.setIfInBounds_toArray, List.set_cons_zero, List.set_cons_succ, i64_w, i32_w]
                  rfl
                refine one_ (i := 21) (N := some 134) #[true, true, true, true, true, true, true, true, true, true, true, true, true, true, true, true, true, true, true, true, true, true, false, true, true, false, true, true, false, true, false, false, false] rfl rfl (one_of HT_.out (by kernel_rfl)) (by decide) (fun K hK => ?_)
                refine goes_ Try.func29 (by kernel_rfl) rfl #[.slice aa b2.length ca] (by rfl) rfl rfl (by (try simp only [List.map_toArray, List.map_cons, List.map_nil]); first | done | rfl | (simp only [List.length_drop, List.length_take]; rfl)) ?_
                with_reducible refine (cbc_Fill.calls k aa ca b2 F wd (Kd.C_below SV.out.2.2.1 D11.out) LA.out H0.out).mono ?_
                rintro e w12 ⟨v12, rfl, hR12, hb12⟩
                refine ⟨_, rfl, ?_⟩
                obtain ⟨zA, zc, rfl⟩ := Kd.R_slice hR12
                have CZ := Aside0.mk (Kd.R_reads' hR12).2.2
                have D12 := Aside0.mk (D11.out.trans (hb12.mono D11.out.size))
                have HB12 := Aside0.mk (below_step (below_step SV.out.2.2.2 D11.out) hb12)
                clear hR12 hb12
                refine hK.out _ _ trivial (fun hHeld => ?_)
                clear hK K
                refine norm_ (a' := ?_) ?_ ?_
                rotate_left
                · show Act.put _ (some 134) _ = _
                  simp only [Act.put, List.setIfInBounds_toArray, List.set_cons_zero, List.set_cons_succ, i64_w, i32_w]
                  rfl
                refine one_ (i := 22) (N := some 135) #[true, true, true, true, true, true, true, true, true, true, true, true, true, true, true, true, true, true, true, true, true, true, true, true, true, false, true, true, false, true, false, false, false] rfl rfl (one_of HT_.out (by kernel_rfl)) (by decide) (fun K hK => ?_)
                have hz1 := Kd.C_string (P := Try.prog) (c := zc) Try.underlying25 Try.underlying5 Try.underlying9 CZ.out
                rw [← HSS.out.1] at hz1
                refine value_ (w1 := ?_) (v := ?_) (by rfl) rfl ?_ ?_
                rotate_left 2
                · go_simp
                  constructor
                  · rfl
                  · rfl
                clear hz1
                refine hK.out _ _ trivial (fun hHeld => ?_)
                clear hK K
                refine norm_ (a' := ?_) ?_ ?_
                rotate_left
                · show Act.put _ (some 135) _ = _
                  simp only [Act.put, List.setIfInBounds_toArray, List.set_cons_zero, List.set_cons_succ, i64_w, i32_w]
                  rfl
                refine one_ (i := 25) (N := some 138) #[true, true, true, true, true, true, true, true, true, true, true, true, true, true, true, true, true, true, true, true, true, true, true, true, true, true, true, true, false, true, false, false, false] rfl rfl (one_of HT_.out (by kernel_rfl)) (by decide) (fun K hK => ?_)
                refine value_ (w1 := ?_) (v := ?_) (by rfl) rfl ?_ ?_
                rotate_left 2
                · go_simp
                  constructor
                  · rfl
                  · rfl
                refine hK.out _ _ trivial (fun hHeld => ?_)
                clear hK K
                refine norm_ (a' := ?_) ?_ ?_
                rotate_left
                · show Act.put _ (some 138) _ = _
                  simp only [Act.put, List.setIfInBounds_toArray, List.set_cons_zero, List.set_cons_succ, i64_w, i32_w]
                  rfl
                exact norm_ (by simp only [putAll, Act.put, List.setIfInBounds_toArray, List.set_cons_zero, List.set_cons_succ]) (hCont (zA, zc) _ HB12.out)
          rintro ⟨zA, zc⟩ w12 hfin
          have HB12 := Aside0.mk hfin
          clear hfin
          have hHeld := trivial
          refine norm_ (a' := ?_) ?_ ?_
          rotate_left
          · simp only [putAll, Act.put, List.setIfInBounds_toArray, List.set_cons_zero, List.set_cons_succ]
            rfl
          refine pure_ (i := 28) (N := some 141) (v := ?_) (a' := ?_) #[true, true, true, true, true, true, true, true, true, true, true, true, true, true, true, true, true, true, true, true, true, true, true, true, true, true, true, true, true, true, false, false, false] rfl rfl (any_of HT_.out (by kernel_rfl)) (fun _ _ _ h => h) (Or.inl ⟨by rfl, ?_⟩) ?_ ?_
          rotate_left
          · intro w'
            go_simp
            try (with_reducible rfl)
          rotate_left
          · simp only [Act.put, List.setIfInBounds_toArray, List.set_cons_zero, List.set_cons_succ, i64_w, i32_w]
            rfl
          refine pure_ (i := 30) (N := some 143) (v := ?_) (a' := ?_) #[true, true, true, true, true, true, true, true, true, true, true, true, true, true, true, true, true, true, true, true, true, true, true, true, true, true, true, true, true, true, true, false, false] rfl rfl (any_of HT_.out (by kernel_rfl)) (fun _ _ _ h => h) (Or.inl ⟨by rfl, ?_⟩) ?_ ?_
          rotate_left
          · intro w'
            go_simp
            try (with_reducible rfl)
          rotate_left
          · simp only [Act.put, List.setIfInBounds_toArray, List.set_cons_zero, List.set_cons_succ, i64_w, i32_w]
            rfl
          refine pure_ (i := 31) (N := some 144) (v := ?_) (a' := ?_) #[true, true, true, true, true, true, true, true, true, true, true, true, true, true, true, true, true, true, true, true, true, true, true, true, true, true, true, true, true, true, true, true, false] rfl rfl (any_of HT_.out (by kernel_rfl)) (fun _ _ _ h => h) (Or.inl ⟨by rfl, ?_⟩) ?_ ?_
          rotate_left
          · intro w'
            go_simp
            try (with_reducible rfl)
          rotate_left
          · simp only [Act.put, List.setIfInBounds_toArray, List.set_cons_zero, List.set_cons_succ, i64_w, i32_w]
            rfl
          refine pure_ (i := 32) (N := some 6) (v := ?_) (a' := ?_) #[true, true, true, true, true, true, true, true, true, true, true, true, true, true, true, true, true, true, true, true, true, true, true, true, true, true, true, true, true, true, true, true, true] rfl rfl (any_of HT_.out (by kernel_rfl)) (fun _ _ _ h => h) (Or.inl ⟨by rfl, ?_⟩) ?_ ?_
          rotate_left
          · intro w'
            go_simp
            try (with_reducible rfl)
          rotate_left
          · simp only [Act.put, List.setIfInBounds_toArray, List.set_cons_zero, List.set_cons_succ, i64_w, i32_w]
            rfl
          refine done_ (done_of HT_.out (by kernel_rfl)) ?_
          go_wp2
          go_ret
          exact ⟨by first | rfl | simp, HB12.out⟩
end Go.Proofs.Ytpcdkfbngoagnaa.C
