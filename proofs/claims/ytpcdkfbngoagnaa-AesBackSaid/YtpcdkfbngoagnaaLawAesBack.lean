/- The law AesBack of charterlaw03 answers true at every input, and the call returns and leaves the caller's memory as it was. Conditions: none beyond those of the given statement. -/
import Derived.Test.YtpcdkfbngoagnaaRows
import Derived.Test.YtpcdkfbngoagnaaHAesBack
import Derived.Test.YtpcdkfbngoagnaaPInv
import Derived.Test.YtpcdkfbngoagnaaPUp
import Derived.WalkKit
import Derived.ProofKit
import Derived.OpenShut
import Derived.ShutString
import Derived.ChangeOld
import Derived.Below
import Derived.SizedLaws
namespace Go.Proofs.Ytpcdkfbngoagnaa.aesBack
open Go.ChangeShapes Go.WideShapes Go.ChangeAt Go.RowKit Go.Proofs.YtpcdkfbngoagnaaW.PrintWords Go.Proofs.YtpcdkfbngoagnaaW.PrintMore
set_option linter.unusedVariables false
theorem own : ownKnob Try.prog.godebug = none := by kernel_rfl
theorem mapM_all {α β : Type} (f : α → Option β) (g : α → β) : ∀ l : List α, (∀ i ∈ l, f i = some (g i)) → l.mapM f = some (l.map g)
  | [], _ => by simp
  | a :: l, h => by
    rw [List.mapM_cons, h a (by simp), mapM_all f g l (fun i hi => h i (by simp [hi]))]
    rfl
/-- An array of sixteen bytes, by value: its bytes, and the same data in whatever world. -/
theorem open_arr {H : Type} {enc : TypeId × Value → H} {W : World} {base : Nat} {sp : Nat → Bool} {v : Value} {d : DataW H} {p : List MemPlace}
    (hval : Value.okWide Try.prog W .any base 39 v) (h0 : DataW.Trod enc Try.prog W 0 sp true 39 v d p) :
    ∃ l : List Int, l.length = 16 ∧ (∀ x ∈ l, (Lit.int .u8 x).wf = true) ∧ v = .agg (arrV 16 .u8 l) ∧ p = [] ∧ ∀ (W' : World) (sp' : Nat → Bool), DataW.Trod enc Try.prog W' 0 sp' true 39 v d [] := by
  obtain ⟨cs, rfl, hsz, _⟩ : ∃ cs, v = .agg cs ∧ cs.size = Try.prog.cellsOf 39 ∧ Row.okWide Try.prog W .any base 39 cs := by
    simpa [Value.okWide, Try.underlying39] using hval
  have hc39 : Try.prog.cellsOf 39 = 16 := by kernel_rfl
  have hc5 : Try.prog.cellsOf 5 = 1 := by kernel_rfl
  obtain ⟨fuel, hf⟩ := h0
  obtain ⟨xs, m, rfl, hx, hl, hn, hat⟩ := DataW.trod_array Try.underlying39 hf
  rw [hc39] at hsz
  obtain ⟨c⟩ := cs
  simp only [Value.cells] at hl hat hf
  have hcl : c.length = 16 := hsz
  have hall : ∀ i, i < 16 → ∃ n, c[i]? = some (.int .u8 n) ∧ xs[i]? = some (.lit (.int .u8 n), []) ∧ (Lit.int .u8 n).wf = true := by
    intro i hi
    have h1 := hat i hi
    rw [hc5, Nat.mul_one] at h1
    obtain ⟨x, hxi⟩ : ∃ x, xs[i]? = some x := ⟨xs[i]'(by omega), List.getElem?_eq_getElem (by omega)⟩
    rw [hxi] at h1
    obtain ⟨n, e1, e2, e3⟩ := DataW.trod_int Try.underlying5 h1
    refine ⟨n, ?_, by rw [hxi, e2], e3⟩
    have h2 : ((c.drop i).take 1)[0]? = some (.int .u8 n) := by rw [e1]; rfl
    rw [List.getElem?_take, if_pos (by decide), List.getElem?_drop, Nat.add_zero] at h2
    exact h2
  obtain ⟨l, hlen, hget⟩ : ∃ l : List Int, l.length = 16 ∧ ∀ i, i < 16 → c[i]? = some (.int .u8 (l.getD i 0)) ∧ xs[i]? = some (.lit (.int .u8 (l.getD i 0)), []) ∧ (Lit.int .u8 (l.getD i 0)).wf = true := by
    refine ⟨c.map (fun v => match v with | .int _ n => n | _ => 0), by simpa using hcl, fun i hi => ?_⟩
    obtain ⟨n, e1, e2, e3⟩ := hall i hi
    have : (c.map (fun v => match v with | .int _ n => n | _ => 0)).getD i 0 = n := by
      rw [List.getD_eq_getElem?_getD, List.getElem?_map, e1]; rfl
    rw [this]
    exact ⟨e1, e2, e3⟩
  have hv : (⟨c⟩ : Array Value) = arrV 16 .u8 l := by
    apply Array.ext
    · simp [arrV, hcl]
    · intro i h1 h2
      have hi : i < 16 := by simpa [arrV] using h2
      have h3 := (hget i hi).1
      rw [List.getElem?_eq_getElem (by omega)] at h3
      have h4 := arrV_get 16 .u8 l i hi
      rw [Array.getElem?_eq_getElem h2] at h4
      exact Option.some.inj (h3.trans h4.symm)
  have hxs : xs = (List.range 16).map (fun i => ((DataW.lit (.int .u8 (l.getD i 0)) : DataW H), ([] : List MemPlace))) := by
    apply List.ext_getElem?
    intro i
    by_cases hi : i < 16
    · rw [(hget i hi).2.1, List.getElem?_map, List.getElem?_range hi]; rfl
    · rw [List.getElem?_eq_none (by omega), List.getElem?_eq_none (by simp; omega)]
  simp only [Prod.mk.injEq] at hx
  obtain ⟨rfl, rfl⟩ := hx
  refine ⟨l, hlen, ?_, by rw [hv], ?_, fun W' sp' => ⟨2, ?_⟩⟩
  · intro x hx
    obtain ⟨i, hi, rfl⟩ := List.mem_iff_getElem.mp hx
    have h3 := (hget i (by omega)).2.2
    rw [List.getD_eq_getElem?_getD, List.getElem?_eq_getElem hi] at h3
    exact h3
  · rw [hxs]; simp
  · have h1 : ∀ i ∈ List.range 16, DataW.trod enc Try.prog W' 0 sp' true 1 5 ((c.drop (i * Try.prog.cellsOf 5)).take (Try.prog.cellsOf 5)) = some ((DataW.lit (.int .u8 (l.getD i 0)) : DataW H), ([] : List MemPlace)) := by
      intro i hi
      have hi := List.mem_range.mp hi
      have h3 := hget i hi
      have h4 : (c.drop i).take 1 = [.int .u8 (l.getD i 0)] := by
        have h5 := h3.1
        rw [List.getElem?_eq_getElem (by omega)] at h5
        rw [List.drop_eq_getElem_cons (by omega), Option.some.inj h5]
        rfl
      rw [hc5, Nat.mul_one, h4]
      simp only [DataW.trod, Try.underlying5]
      rw [if_pos ⟨trivial, h3.2.2⟩]
    have h2 := mapM_all _ _ _ h1
    show DataW.trod enc Try.prog W' 0 sp' true 2 39 c = _
    unfold DataW.trod
    rw [Try.underlying39]
    have h6 : c.length = Try.prog.cellsOf 39 := by rw [hc39]; exact hcl
    simp only [h6, if_true]
    rw [h2, hxs]
    simp
theorem bytes_inj : ∀ (X Y : List Int), (∀ x ∈ X, 0 ≤ x ∧ x < 256) → (∀ x ∈ Y, 0 ≤ x ∧ x < 256) → Lib.bytesOf X = Lib.bytesOf Y → X = Y
  | [], [], _, _, _ => rfl
  | [], _ :: _, _, _, h => by simp [Lib.bytesOf] at h
  | _ :: _, [], _, _, h => by simp [Lib.bytesOf] at h
  | x :: X, y :: Y, hX, hY, h => by
    simp only [Lib.bytesOf, List.map_cons, List.cons.injEq] at h
    have h1 := hX x (by simp)
    have h2 := hY y (by simp)
    have h3 := congrArg UInt8.toNat h.1
    simp only [UInt8.toNat_ofNat'] at h3
    rw [show x = y from by omega, bytes_inj X Y (fun z hz => hX z (by simp [hz])) (fun z hz => hY z (by simp [hz])) h.2]
theorem pure (K A B : List Int) (hK : Pure.By16 K) (hA : Pure.By16 A) (hB : Pure.By16 B) : ∃ (k : Nat) (X Y V : List Int), X.length = 16 ∧ C.charterlaw03_up.f k = some true ∧ C.aes_Encrypt.f k K A = some (X, none) ∧ C.aes_Encrypt.f k K B = some (Y, none) ∧
    C.aes_Decrypt.f k K X = some (A, none) ∧ C.aes_Decrypt.f k K B = some (V, none) ∧ C.aes_Encrypt.f k K V = some (B, none) ∧ ((strOfNums X).toList == (strOfNums Y).toList) = (A == B) := by
  obtain ⟨m, hm⟩ : ∃ m, m = 400 := ⟨_, rfl⟩
  have hk := fun i hi => Pure.keys_by K hK i hi
  have hX := Pure.encR_by (Pure.kgo 10 [K] K 1) A hA 10
  have hY := Pure.encR_by (Pure.kgo 10 [K] K 1) B hB 10
  have hV := Pure.decL_by (Pure.kgo 10 [K] K 1) B hB
  have e := fun (S : List Int) (hS : Pure.By16 S) => Pure.aesEnc_ok (m - 181) K S hK hS
  have d := fun (S : List Int) (hS : Pure.By16 S) => Pure.aesDec_ok (m - 181) K S hK hS
  rw [show m - 181 + 181 = m from by omega] at e d
  refine ⟨m, _, _, _, hX.1, by rw [hm]; exact Pure.up_ok, e A hA, e B hB, ?_, d B hB, ?_, ?_⟩
  · rw [d _ hX, Pure.dec_enc _ A hA hk]
  · rw [e _ hV, Pure.enc_dec _ B hB hk]
  · rw [Bool.eq_iff_iff, beq_iff_eq, beq_iff_eq, Lib.strOfNums_toList, Lib.strOfNums_toList]
    constructor
    · intro h
      have h2 := bytes_inj _ _ hX.2 hY.2 h
      rw [← Pure.dec_enc _ A hA hk, h2, Pure.dec_enc _ B hB hk]
    · rintro rfl; rfl
theorem lifted (os : Os) (started : os.Started) (H : Type) (enc : TypeId × Value → H) :
    ReturnsInHanded {} Try.checked os 7 .any (Rows.aesBackSpec.pre6 enc Try.prog Try.f7 Rows.aesBackRow.domain false) (Rows.aesBackSpec.post enc Try.prog Try.f7 false true false false) := by
  refine returnsInHanded_of_change_sized (C := Try.checked) own started (by kernel_rfl) Try.func7
    (ChangeSpec.witness6 (enc := enc) (C := Try.checked) false ⟨#[], #[.agg (arrV 16 .u8 []), .agg (arrV 16 .u8 []), .agg (arrV 16 .u8 [])], []⟩ 8 (by kernel_rfl) (by kernel_rfl) (by kernel_rfl) (by kernel_rfl)) ?_
  intro W base args ds gs before hval0 hW hcnd hsz0 _
  have hval : ∀ (j : Nat) t v, Try.f7.params[j]? = some t → args[j]? = some v → Value.okWide Try.prog W .any base t v := hval0
  have hW' := hW
  obtain ⟨p, q, hA0, hV, rfl, hfz, hnd⟩ := hW
  have hA : DataW.TrodAll enc Try.prog W 0 (fun _ => true) true Try.f7.params.toList args.toList ds p := hA0
  rw [Try.params7] at hA hval
  obtain ⟨v0, vs0, d0, ds0, p0, q0, hargs, rfl, rfl, h0, r0⟩ := trodAll_cons hA
  obtain ⟨v1, vs1, d1, ds1, p1, q1, rfl, rfl, rfl, h1, r1⟩ := trodAll_cons r0
  obtain ⟨v2, vs2, d2, ds2, p2, q2, rfl, rfl, rfl, h2, r2⟩ := trodAll_cons r1
  obtain ⟨rfl, rfl, rfl⟩ := trodAll_nil r2
  obtain rfl : args = #[v0, v1, v2] := by cases args; simp_all
  obtain ⟨rfl, rfl⟩ := trodVars_none hV
  obtain ⟨K, hK, wK, rfl, rfl, sK⟩ := open_arr (hval 0 39 v0 rfl rfl) h0
  obtain ⟨A, hA', wA, rfl, rfl, sA⟩ := open_arr (hval 1 39 v1 rfl rfl) h1
  obtain ⟨B, hB, wB, rfl, rfl, sB⟩ := open_arr (hval 2 39 v2 rfl rfl) h2
  clear hA0 hval0 hsz0
  obtain ⟨k, X, Y, V, e1, e2, e3, e4, e5, e6, e7, e8⟩ := pure K A B (Pure.by16_of K hK wK) (Pure.by16_of A hA' wA) (Pure.by16_of B hB wB)
  refine (C.aesBack_calls k K A B X Y V hK hA' hB e1 e2 e3 e4 e5 e6 e7 e8 W).mono fun e W' ⟨he, bel⟩ => ?_
  subst he
  exact ⟨_, rfl, _, _, _, [], _, [], hW', trodAll_mk1 (shut_bool Try.underlying4 _), (trodAll_cons_mk (sK _ _) (trodAll_cons_mk (sA _ _) (trodAll_cons_mk (sB _ _) trodAll_mk0))), rfl, bel.frame _, fun h => by cases h⟩
theorem over : Rows.aesBackRow.holds Try.pinned (OpenSpec.ofChange Rows.aesBackSpec) :=
  OpenClaim.holds_of_wide 7 Try.f7 rfl rfl rfl rfl rfl rfl rfl ⟨rfl, rfl, rfl, rfl, rfl⟩ rfl rfl rfl rfl rfl (by kernel_rfl) Try.func7 (by kernel_rfl)
    (of_decide_eq_true (by kernel_rfl)) (by unfold Func.isWrapper; first | (rw [if_pos (by decide +kernel)]; kernel_rfl) | (rw [if_neg (by decide +kernel)]; exact ⟨rfl, rfl⟩))
    (fun os started H enc _ => lifted os started H enc)
theorem proved : Rows.AesBackSaid := over
#print axioms proved
end Go.Proofs.Ytpcdkfbngoagnaa.aesBack
