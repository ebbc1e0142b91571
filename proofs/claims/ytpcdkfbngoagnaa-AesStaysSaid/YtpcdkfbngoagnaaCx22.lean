-- PRINTED by print.py (a twelfth state) out of the translation. Not trusted: Lean checks it.
import Derived.Test.YtpcdkfbngoagnaaHWords
import Derived.Test.YtpcdkfbngoagnaaCx0
import Derived.Test.YtpcdkfbngoagnaaCx3
import Derived.Test.YtpcdkfbngoagnaaCx5
import Derived.Test.YtpcdkfbngoagnaaCx12
import Derived.Test.YtpcdkfbngoagnaaCx20
import Derived.Test.YtpcdkfbngoagnaaCx21
namespace Go.Proofs.Ytpcdkfbngoagnaa.C
open Go.RowKit Go.Proofs.YtpcdkfbngoagnaaW.PrintWords Go.Proofs.YtpcdkfbngoagnaaW.PrintLast Go.Proofs.YtpcdkfbngoagnaaW.PrintMore
attribute [local go_sem] max2_int min2_int max_two min_two max_three min_three max_four min_four   -- for this text's walks alone
set_option linter.unusedVariables false
set_option linter.unusedSimpArgs false

-- OWN FILE
/-! ### cbc_Seal: function 25 -/
-- IMPORT Derived.Test.YtpcdkfbngoagnaaHWords
theorem xor_go (b : List Int) (hb : b.length = 16) (a : List Int) (ha : a.length = 16) : ∀ d i m, i + d = 16 → cbc_xor.l0 (m + d + 1) b (xorS a b i) 16 i = some (xorS a b 16) := by
 intro d
 induction d with
 | zero =>
  intro i m h
  obtain rfl : i = 16 := by omega
  simp [cbc_xor.l0]
 | succ d ih =>
  intro i m h
  have hi : i < 16 := by omega
  have hl := xorS_length a b i
  have hw : wrap64 ((i : Int) + 1) = ((i + 1 : Nat) : Int) := by unfold wrap64; omega
  rw [show m + (d + 1) + 1 = (m + d + 1) + 1 from by omega, cbc_xor.l0, if_pos (by omega), if_pos (by omega), if_pos (by omega), if_pos (by omega), hw, ← ih (i + 1) m (by omega)]
  congr 1
  rw [← xorS_set i (by omega), rd, rd]
  simp only [Int.toNat_natCast]
  rw [xorS_get i (by omega)]
theorem xor_ok (a b : List Int) (ha : a.length = 16) (hb : b.length = 16) (m : Nat) : cbc_xor.f (m + 17) a b = some (xorS a b 16) := by
 unfold cbc_xor.f slices_Clone_byte_byte.f
 rw [if_pos (by omega), Option.bind_some, ha]
 have h := xor_go b hb a ha 16 0 m (by omega)
 rw [xorS_zero] at h
 exact h
def sealS (ks : List (List Int)) (st : List Int × List Int) (b : List Int) : List Int × List Int := (st.1 ++ encR ks (xorS b st.2 16) 10, encR ks (xorS b st.2 16) 10)
def sealF (ks : List (List Int)) (l1 : List Int) (bs : List (List Int)) : List Int × List Int := bs.foldl (sealS ks) ([], l1)
theorem sealF_snoc (ks : List (List Int)) (l1 : List Int) (bs : List (List Int)) (b : List Int) : sealF ks l1 (bs ++ [b]) = sealS ks (sealF ks l1 bs) b := by simp [sealF]
theorem sealS_len (ks : List (List Int)) : ∀ (bs : List (List Int)) (st : List Int × List Int), st.2.length = 16 → (∀ b ∈ bs, b.length = 16) → (bs.foldl (sealS ks) st).2.length = 16 ∧ (bs.foldl (sealS ks) st).1.length = st.1.length + 16 * bs.length
 | [], st, h, _ => ⟨h, rfl⟩
 | b :: bs, st, h, hb => by
  have hbl := hb b (by simp)
  have he := encR_length ks (xorS b st.2 16) (by rw [xorS_length]; exact hbl) 10
  have ih := sealS_len ks bs (sealS ks st b) he (fun b hb' => hb b (by simp [hb']))
  rw [List.foldl_cons]
  refine ⟨ih.1, ih.2.trans ?_⟩
  simp only [sealS, List.length_append, he, List.length_cons]
  omega
theorem xor16 (k : Nat) (A : Option Addr) (c : Nat) (a : List Int) (B : Option Addr) (d : Nat) (b : List Int) (hk : 17 ≤ k) (W : World) (ha : Kd.C (Kd.int .u8) W A 16 a) (hc : 16 ≤ c) (hb : Kd.C (Kd.int .u8) W B 16 b) (hd : 16 ≤ d) :
 Calls Try.prog 40 #[.slice A 16 c, .slice B 16 d] W fun e w' => ∃ X c2, e = .returned (.slice (some X) 16 c2) ∧ 16 ≤ c2 ∧ Kd.C (Kd.int .u8) w' (some X) 16 (xorS a b 16) ∧ W.heap.size ≤ X.block ∧ Below W.heap.size W w' := by
 have hal : a.length = 16 := ha.1
 have hbl : b.length = 16 := hb.1
 obtain ⟨m, rfl⟩ : ∃ m, k = m + 17 := ⟨k - 17, by omega⟩
 have h := cbc_xor.calls (m + 17) A c a B d b (xorS a b 16) W (by rw [hal]; exact ha) (by omega) (by rw [hbl]; exact hb) (by omega) (xor_ok a b hal hbl m)
 rw [hal, hbl] at h
 refine h.mono ?_
 rintro e w' ⟨v, rfl, hR, hB⟩
 obtain ⟨X, c2, rfl⟩ := Kd.R_slice hR
 have hx := xorS_length a b 16
 have hr := Kd.R_reads' hR
 obtain ⟨ad, rfl, _⟩ := hr.2.2.2.2 (by rw [hx]; omega)
 obtain ⟨inner, ho⟩ := Kd.R_own hR
 have hbk := own_base ho ad.block (by simp [Value.ownBlock])
 rw [hx, hal] at hR hr ⊢
 rw [hx, hal] at ho
 exact ⟨ad, c2, rfl, by omega, hr.2.2, hbk, hB⟩
theorem enc16 (k : Nat) (A : Option Addr) (c : Nat) (a : List Int) (B : Option Addr) (d : Nat) (b : List Int) (ks : List (List Int)) (hk : aes_Keys.f k a = some (ks, none)) (ho : okK ks = true) (W : World) (ha : Kd.C (Kd.int .u8) W A 16 a) (hc : 16 ≤ c) (hb : Kd.C (Kd.int .u8) W B 16 b) (hd : 16 ≤ d) :
 Calls Try.prog 20 #[.slice A 16 c, .slice B 16 d] W fun e w' => ∃ X c2, e = .returned (.tuple #[.slice (some X) 16 c2, .nilIface]) ∧ 16 ≤ c2 ∧ Kd.C (Kd.int .u8) w' (some X) 16 (encR ks b 10) ∧ W.heap.size ≤ X.block ∧ Below W.heap.size W w' := by
 have hal : a.length = 16 := ha.1
 have hbl : b.length = 16 := hb.1
 have h := aes_Encrypt.calls k A c a B d b (encR ks b 10) none W (by rw [hal]; exact ha) (by omega) (by rw [hbl]; exact hb) (by omega) (by simp [aes_Encrypt.f, hk, ho, hbl])
 rw [hal, hbl] at h
 refine h.mono ?_
 rintro e w' ⟨v, rfl, hV, hB⟩
 obtain ⟨X, c2, rfl, hc2, hF⟩ := hV
 have hx := encR_length ks b hbl 10
 rw [hx] at hc2 hF ⊢
 have hC := Kd.F_now hF
 obtain ⟨ad, rfl, _⟩ := hC.2.2 (by omega)
 exact ⟨ad, c2, rfl, hc2, hC, F_block hF (by omega), hB⟩
theorem sealF_len (ks : List (List Int)) (l1 tf : List Int) (m : Nat) (ht : tf.length = 16 * m) (h1 : l1.length = 16) (pre : List (Fin m)) : (sealF ks l1 (pre.map fun x => blkAt tf x.1)).1.length = 16 * pre.length := by
 have := (sealS_len ks (pre.map fun x => blkAt tf x.1) ([], l1) h1 (fun b hb => by
  obtain ⟨x, _, rfl⟩ := List.mem_map.1 hb
  exact blkAt_len (by have := x.2; omega))).2
 rw [sealF, this]
 simp
theorem info5' : (Try.prog.info? 5).map (fun i => (i.zero, i.size, i.bytes)) = some (some (.int .u8 0), 1, 1) := by kernel_rfl
section
attribute [local go_sem] Oper.semAt_some
set_option maxRecDepth 100000 in
set_option maxHeartbeats 8000000 in
theorem seal_ok (k : Nat) (A0 : Option Addr) (c0 : Nat) (l0 : List Int) (A1 : Option Addr) (c1 : Nat) (l1 : List Int) (A2 : Option Addr) (c2 : Nat) (l2 tf : List Int) (ks : List (List Int)) (m : Nat) (w : World)
 (hr0 : Kd.C (Kd.int .u8) w A0 16 l0) (hc0 : 16 ≤ c0) (hr1 : Kd.C (Kd.int .u8) w A1 16 l1) (hc1 : 16 ≤ c1) (hr2 : Kd.C (Kd.int .u8) w A2 l2.length l2) (hc2 : l2.length ≤ c2)
 (hlen : l2.length ≤ 65536) (hk : aes_Keys.f k l0 = some (ks, none)) (ho : okK ks = true) (hf : cbc_Fill.f k l2 = some tf) (hm : tf.length = 16 * m) (hm0 : 0 < m) (hm1 : m ≤ 4097) (hk18 : 17 ≤ k) :
 Calls Try.prog 25 #[.slice A0 16 c0, .slice A1 16 c1, .slice A2 l2.length c2] w fun e w' => ∃ v0_ : Value, e = .returned (.tuple #[v0_, .nilIface]) ∧ Kd.R (Kd.int .u8) 5 w' w.heap.size (fun _ => True) v0_ (sealF ks l1 (blkTo tf m)).1 ∧ Below w.heap.size w w' := by
 refine (callsIn_wide (n := 9)).1 ?_
 refine callsIn_of_wp_marks Try.func25 rfl trivial ?_ rfl
 simp only [Try.ntmps25, List.size_toArray, List.length_cons, List.length_nil, Nat.reduceAdd, Nat.reduceSub, Array.replicate_succ, Array.replicate_zero, List.push_toArray, List.append_toArray, List.nil_append, List.cons_append]
 have hle : ¬ ((l2.length : Nat) : Int) > 65536 := by omega
 obtain ⟨a0, rfl⟩ : ∃ a, A0 = some a := by obtain ⟨a, e, _⟩ := hr0.2.2 (by omega); exact ⟨a, e⟩
 obtain ⟨a1, rfl⟩ : ∃ a, A1 = some a := by obtain ⟨a, e, _⟩ := hr1.2.2 (by omega); exact ⟨a, e⟩
 have HL0 := Aside0.mk hr0
 have HL1 := Aside0.mk hr1
 have HL1l := Aside0.mk (show l1.length = 16 from hr1.1)
 obtain ⟨i0, hi, hz0, hz1, hz2⟩ := info_parts info5'
 have HK := Aside0.mk (And.intro hk ho)
 have HM := Aside0.mk hm
 have HM1 := Aside0.mk hm1
 have HK18 := Aside0.mk hk18
 have HC := Aside0.mk (And.intro hc0 hc1)
 clear hr0 hr1 hk ho hm hm1 hk18 hc0 hc1
 obtain ⟨W5, hW5⟩ : ∃ W5, W5 = (((((w.alloc (.cells #[.slice (some a0) 16 c0] 25)).alloc (.cells #[.slice none 0 0] 25)).alloc (.cells #[.nilIface] 28)).alloc (.cells #[.slice none 0 0] 25)).alloc (.cells #[.slice (some a1) 16 c1] 25)) := ⟨_, rfl⟩
 have HB5 := Aside0.mk (show Below w.heap.size w W5 by rw [hW5]; exact (((((Below.refl _ w).alloc (Nat.le_refl _) _).alloc (by simp) _).alloc (by simp; omega) _).alloc (by simp; omega) _).alloc (by simp; omega) _)
 have HX0 := Aside0.mk (show Boxed W5 w.heap.size 25 (.slice (some a0) 16 c0) by rw [hW5]; exact ((((Boxed.new w 25 _).alloc _).alloc _).alloc _).alloc _)
 have HX1 := Aside0.mk (show Boxed W5 (w.heap.size + 1) 25 (.slice none 0 0) by rw [hW5]; have := Boxed.new (w.alloc (.cells #[.slice (some a0) 16 c0] 25)) 25 (.slice none 0 0); rw [World.size_alloc] at this; exact ((this.alloc _).alloc _).alloc _)
 have HX2 := Aside0.mk (show Boxed W5 (w.heap.size + 1 + 1) 28 .nilIface by rw [hW5]; have := Boxed.new ((w.alloc (.cells #[.slice (some a0) 16 c0] 25)).alloc (.cells #[.slice none 0 0] 25)) 28 .nilIface; rw [World.size_alloc, World.size_alloc] at this; exact (this.alloc _).alloc _)
 have HX3 := Aside0.mk (show Boxed W5 (w.heap.size + 1 + 1 + 1) 25 (.slice none 0 0) by rw [hW5]; have := Boxed.new (((w.alloc (.cells #[.slice (some a0) 16 c0] 25)).alloc (.cells #[.slice none 0 0] 25)).alloc (.cells #[.nilIface] 28)) 25 (.slice none 0 0); rw [World.size_alloc, World.size_alloc, World.size_alloc] at this; exact this.alloc _)
 have HX4 := Aside0.mk (show Boxed W5 (w.heap.size + 1 + 1 + 1 + 1) 25 (.slice (some a1) 16 c1) by rw [hW5]; have := Boxed.new ((((w.alloc (.cells #[.slice (some a0) 16 c0] 25)).alloc (.cells #[.slice none 0 0] 25)).alloc (.cells #[.nilIface] 28)).alloc (.cells #[.slice none 0 0] 25)) 25 (.slice (some a1) 16 c1); rw [World.size_alloc, World.size_alloc, World.size_alloc, World.size_alloc] at this; exact this)
 have HFI := Aside0.mk (cbc_Fill.calls k A2 c2 l2 tf W5 (Kd.C_below hr2 HB5.out) hc2 hf)
 have HW5 := Aside0.mk hW5
 clear hW5 hr2 hc2 hf
 gi_wp2_with fail
 rw [← HW5.out]
 clear HW5
 generalize e4 : w.heap.size + 1 + 1 + 1 + 1 = g4 at HX4 ⊢
 generalize e3 : w.heap.size + 1 + 1 + 1 = g3 at HX3 ⊢
 generalize e2 : w.heap.size + 1 + 1 = g2 at HX2 ⊢
 generalize e1 : w.heap.size + 1 = g1 at HX1 ⊢
 have HG := Aside0.mk (show g1 = w.heap.size + 1 ∧ g2 = w.heap.size + 2 ∧ g3 = w.heap.size + 3 ∧ g4 = w.heap.size + 4 from ⟨by omega, by omega, by omega, by omega⟩)
 clear e1 e2 e3 e4
 refine ⟨trivial, ?_⟩
 refine (callsIn_wide.2 HFI.out).mono ?_
 clear HFI
 rintro e w1 ⟨tv, rfl, hR, hB1⟩
 obtain ⟨TA, Tc, rfl⟩ := Kd.R_slice hR
 have hRr := Kd.R_reads' hR
 obtain ⟨ad, rfl⟩ : ∃ ad, TA = some ad := by
  obtain ⟨a, e, _⟩ := hRr.2.2.2.2 (by have := HM.out; omega)
  exact ⟨a, e⟩
 have HR := Aside0.mk hR
 have HB1 := Aside0.mk hB1
 clear hR hB1 hRr
 simp only [HM.out]
 gi_wp2_with (refine ⟨trivial, ?_⟩; gi_at_call 39; refine (callsIn_wide.2 (chunk_in _ _ _ _)).mono ?_; rintro e w' ⟨rfl, rfl⟩)
 obtain ⟨W0, hW0⟩ : ∃ W0, W0 = ((w1.alloc (.cells #[.slice (some ad) (16 * m) Tc] 25)).alloc (.cells #[.int .i64 16] 3)) := ⟨_, rfl⟩
 rw [← hW0]
 have hb10 : Below w1.heap.size w1 W0 := by rw [hW0]; exact ((Below.refl _ w1).alloc (Nat.le_refl _) _).alloc (by simp) _
 have hsz0 : W0.heap.size = w1.heap.size + 2 := by rw [hW0]; simp
 have hYs : Boxed W0 w1.heap.size 25 (.slice (some ad) (16 * m) Tc) := by rw [hW0]; exact (Boxed.new w1 25 _).alloc _
 have hYn : Boxed W0 (w1.heap.size + 1) 3 (.int .i64 16) := by rw [hW0]; have := Boxed.new (w1.alloc (.cells #[.slice (some ad) (16 * m) Tc] 25)) 3 (.int .i64 16); rw [World.size_alloc] at this; exact this
 clear hW0
 obtain ⟨hg1, hg2, hg3, hg4⟩ := HG.out
 have hs5 := HX4.out.lt
 have h15 := HB1.out.size
 have move : ∀ {b : Nat} {t : TypeId} {v : Value}, Boxed W5 b t v → Boxed W0 b t v := fun {b t v} h => (hb10.block b (Nat.lt_of_lt_of_le h.lt h15)).trans ((HB1.out.block b h.lt).trans h)
 have X0 := move HX0.out
 have X1 := move HX1.out
 have X2 := move HX2.out
 have X3 := move HX3.out
 have X4 := move HX4.out
 have hB0 : Below w.heap.size w W0 := below_step (below_step HB5.out HB1.out) hb10
 have hRr := Kd.R_reads' HR.out
 have hTc : 16 * m ≤ Tc := by rw [← HM.out]; exact hRr.2.1
 have hCt : Kd.C (Kd.int .u8) W0 (some ad) (16 * m) tf := by
  have := Kd.C_below hRr.2.2 hb10
  rwa [HM.out] at this
 have hadb : W5.heap.size ≤ ad.block := by
  obtain ⟨inner, hown⟩ := Kd.R_own HR.out
  exact own_base hown ad.block (by simp [Value.ownBlock])
 have hC0 : Kd.C (Kd.int .u8) W0 (some a0) 16 l0 := Kd.C_below HL0.out hB0
 have hC1 : Kd.C (Kd.int .u8) W0 (some a1) 16 l1 := Kd.C_below HL1.out hB0
 have ha0 := C_lt HL0.out (by omega)
 have ha1 := C_lt HL1.out (by omega)
 have hI0 : SealI m W0 w g3 g4 (sealF ks l1) tf [] W0 := ⟨_, _, X3, X4, World.ownsRow_nil _ _ _ _, ⟨a1, c1, rfl, HC.out.2, hC1, by omega, by omega, by simp [Value.ownBlock]⟩, KeepTwo.refl _ _ _, hB0⟩
 have HI0 := Aside0.mk hI0
 have HX := Aside0.mk (And.intro X0 (And.intro X1 (And.intro X2 (And.intro hYs hYn))))
 have HS := Aside0.mk (And.intro hsz0 (And.intro hs5 (And.intro h15 (And.intro hadb (And.intro ha0 ha1)))))
 have HCC := Aside0.mk (And.intro hC0 hCt)
 have HB00 := Aside0.mk hB0
 have HMM := Aside0.mk hm0
 have HTc := Aside0.mk hTc
 have hseq := chunk_stops 8 (by omega) w1.heap.size (w1.heap.size + 1) m Tc ad hTc (by have := HM1.out; omega) W0 (by omega) (by omega) hYs.cell hYn.cell
 clear hI0 X0 X1 X2 X3 X4 hYs hYn hC0 hC1 hCt hRr hadb ha0 ha1 hsz0 hb10 hTc hs5 h15 hB0 HB5 HB1 HR HX0 HX1 HX2 HX3 HX4 HL1 hm0 move hg1 hg2 hg3 hg4
 refine wpIn_rangeFunc_ownG rfl (by omega) (gf := 44) (lb := #[.pointer (some ⟨w1.heap.size, 0, none⟩), .pointer (some ⟨w1.heap.size + 1, 0, none⟩)]) rfl trivial (enters_of Try.func44 (by kernel_rfl) rfl)
  hseq KpC_t (fun W l o o' hl h hc hw => KpC_b (w := W0) W l o o' hl h hc hw) (Below.refl _ _) (fun _ => rfl)
  (SealI m W0 w g3 g4 (sealF ks l1) tf) (fun _ _ _ => False) (SealI_own HB00.out.size) (fun _ _ _ _ _ hs _ _ => hs) HI0.out
  (fun x => { tmps := #[.slice (some a0) 16 c0, .slice (some a1) 16 c1, .slice A2 l2.length c2, .pointer (some ⟨w.heap.size, 0, none⟩), undef, undef,
   .pointer (some ⟨g1, 0, none⟩), .pointer (some ⟨g2, 0, none⟩), .pointer (some ⟨g3, 0, none⟩), .pointer (some ⟨g4, 0, none⟩), .slice (some (ad.add (16 * x.1))) 16 16, undef,
   undef, .slice (some a0) 16 c0, .int .i64 16, .bool false, .bool false,
   .slice (some a1) 16 c1, .int .i64 16, .bool false, .bool false, undef,
   .slice A2 l2.length c2, .int .i64 l2.length, .bool false, undef,
   .slice (some a1) 16 c1, .slice A2 l2.length c2, .slice (some ad) (16 * m) Tc,
   .func (.func 44) #[] #[.pointer (some ⟨w1.heap.size, 0, none⟩), .pointer (some ⟨w1.heap.size + 1, 0, none⟩)],
   .slice (some (ad.add (16 * x.1))) 16 16, undef, undef, undef, undef, undef, undef, undef, undef, undef, undef, undef, undef, undef, undef, undef, undef], defers := [] }) ?assign ?body ?done ?stop
 case assign =>
  intro l x W K hK
  gi_wp2
  exact hK
 case stop =>
  rintro D c pre W _ _ h _
  exact h.elim
 case done =>
  rintro D ys W hD rfl ⟨ov, lv, h3, h4, hown, hlast, hkt, hB⟩ hK
  obtain ⟨hg1, hg2, hg3, hg4⟩ := HG.out
  have hln := sealF_len ks l1 tf m HM.out HL1l.out (List.finRange m)
  have hmap : ((List.finRange m).map fun x => blkAt tf x.1) = blkTo tf m := by
   apply List.ext_getElem
   · simp [blkTo]
   · intro i h1 h2
     simp [blkTo]
  rw [hmap] at hown hln
  rw [List.length_finRange] at hln
  rw [hln] at hown
  obtain ⟨mm, rfl⟩ : ∃ mm, m = mm + 1 := ⟨m - 1, by have := HMM.out; omega⟩
  obtain ⟨gq, cq, rfl⟩ := ownsRow_succ (k := 16 * mm + 15) hown
  have hX1 := hkt.box HX.out.2.1 (by omega) (by omega)
  have hX2 := hkt.box HX.out.2.2.1 (by omega) (by omega)
  have hc3 := h3.cell
  have hc1 := hX1.cell
  have hf1 := hX1.frozen
  have hc2 := (cell_other_block W (.slice (some ⟨gq, 0, none⟩) (16 * mm + 15 + 1) cq) (show g2 ≠ g1 by omega)).trans hX2.cell
  have hf2 := (frozen_other_block W (.slice (some ⟨gq, 0, none⟩) (16 * mm + 15 + 1) cq) (show g2 ≠ g1 by omega)).trans hX2.frozen
  have HH := Aside0.mk (And.intro h3 (And.intro hX1 (And.intro hX2 (And.intro hown (And.intro hB (And.intro hg1 (And.intro hg2 (And.intro hg3 hD))))))))
  have HLN := Aside0.mk hln
  clear hlast hkt hB h3 h4 hX1 hX2 hown hg1 hg2 hg3 hg4 hmap hln hD
  gi_wp2
  obtain ⟨h3, hX1, hX2, hown, hB, hg1, hg2, hg3, hD⟩ := HH.out
  have hY1 := hX1.set (.slice (some ⟨gq, 0, none⟩) (16 * mm + 15 + 1) cq)
  have hY1' : Boxed ((W.setCell ⟨g1, 0, none⟩ (.slice (some ⟨gq, 0, none⟩) (16 * mm + 15 + 1) cq)).setCell ⟨g2, 0, none⟩ .nilIface) g1 25 _ := (Below.heap_setCell _ _ _ g1 (by simp only; omega)).trans hY1
  have hY2 : Boxed ((W.setCell ⟨g1, 0, none⟩ (.slice (some ⟨gq, 0, none⟩) (16 * mm + 15 + 1) cq)).setCell ⟨g2, 0, none⟩ .nilIface) g2 28 .nilIface := Boxed.set (v := .nilIface) _ ((Below.heap_setCell _ _ _ g2 (by simp only; omega)).trans hX2)
  have hKf := ((KeepsOthers.setCell W ⟨g1, 0, none⟩ (.slice (some ⟨gq, 0, none⟩) (16 * mm + 15 + 1) cq)).trans (KeepsOthers.setCell _ ⟨g2, 0, none⟩ .nilIface)).same D _ hK rfl
  have hne1 := (hX1.not_row (by decide) hown).symm
  have hown2 := hown.kept (grownBy_setCell' W g1 (.slice (some ⟨gq, 0, none⟩) (16 * mm + 15 + 1) cq)) (.inr hne1)
  have hX2b : Boxed (W.setCell ⟨g1, 0, none⟩ (.slice (some ⟨gq, 0, none⟩) (16 * mm + 15 + 1) cq)) g2 28 .nilIface := (Below.heap_setCell _ _ _ g2 (by simp only; omega)).trans hX2
  have hne2 := (hX2b.not_row (by decide) hown2).symm
  have hown3 := hown2.kept (grownBy_setCell' _ g2 .nilIface) (.inr hne2)
  refine ⟨by simp, .inl ⟨_, _, rfl, run_takeDeferred hKf, ?_⟩⟩
  refine ⟨_, results_2c rfl _ _ g1 g2 _ _ (agg25 _) (agg28 _) rfl rfl (cell_putObj hKf rfl hY1'.cell) (cell_putObj hKf rfl hY2.cell), _, rfl, ?_, ?_⟩
  · refine Kd.R_of_own (e := 5) ?_ (fun _ _ => trivial)
    have hln := HLN.out
    have := ownsRow_putObj hown3 (.deferred none) hKf rfl
    rw [hln]
    exact own_less this HB00.out.size
  · refine ((hB.setCell (p := ⟨g1, 0, none⟩) (by simp only; omega) _).setCell (p := ⟨g2, 0, none⟩) (by simp only; omega) _).trans (belowK_b (w := w) (Nat.le_refl _) _ D _ _ ?_ hKf rfl rfl)
    exact Nat.le_trans HB00.out.size hD
 case body =>
  rintro l pre x W ⟨ov, lv, h3, h4, hown, ⟨la, lc, rfl, hlc, hlC, hl1, hl2, hl3⟩, hkt, hB⟩ hlt
  have hx := x.2
  obtain ⟨hg1, hg2, hg3, hg4⟩ := HG.out
  obtain ⟨hsz0, hs5, h15, hadb, ha0, ha1⟩ := HS.out
  have hadl := C_lt HCC.out.2 (by have := HMM.out; omega)
  have hD := (Below.refl W.heap.size W).drew
  have hX0 := Aside0.mk (hkt.box HX.out.1 (by omega) (by omega))
  have hC0 := Aside0.mk (Kd.C_below (C_block HCC.out.1 (hkt.2 a0.block (by omega) (by omega) (by omega))) hD)
  have hCb := Aside0.mk (Kd.C_below (C_blk (C_block HCC.out.2 (hkt.2 ad.block (by omega) (by omega) (by omega))) (show 16 * x.1 + 16 ≤ 16 * m by omega)) hD)
  have hCl := Aside0.mk (Kd.C_below hlC hD)
  have hXO := Aside0.mk (xor16 k _ 16 _ _ lc _ HK18.out W.drew hCb.out (Nat.le_refl _) hCl.out hlc)
  have hcell0 : W.drew.cell? ⟨w.heap.size, 0, none⟩ = some (.slice (some a0) 16 c0) := hX0.out.cell
  have hcell4 : W.drew.cell? ⟨g4, 0, none⟩ = some (.slice (some la) 16 lc) := h4.cell
  have hW := Aside0.mk (And.intro h3 (And.intro h4 (And.intro hown (And.intro hlC (And.intro hkt hB)))))
  have hLL := Aside0.mk (And.intro hl1 (And.intro hl2 hl3))
  have hw0lt := Aside0.mk (show w.heap.size < W.heap.size from hX0.out.lt)
  clear h3 h4 hown hlC hkt hB hl1 hl2 hl3 hlc hD hg1 hg2 hg3 hg4 hsz0 hs5 h15 hadb ha0 ha1
  have hmx : Try.prog.follows .mixedOrders = true := by kernel_rfl
  gi_wp2
  gi_region_with_o (first
   | (refine ⟨trivial, ?_⟩; gi_at_call 40; refine (CallsIn.inRound l (callsIn_wide.2 hXO.out)).mono ?_; rintro e w2 ⟨X2, d2, rfl, hd2, hC2, hb2, hB2⟩; have hcell02 : w2.cell? ⟨w.heap.size, 0, none⟩ = some (.slice (some a0) 16 c0) := (hB2.cell (p := ⟨w.heap.size, 0, none⟩) hw0lt.out).trans hcell0; have hEN := Aside0.mk (enc16 k _ c0 _ _ d2 _ ks HK.out.1 HK.out.2 w2 (Kd.C_below hC0.out hB2) HC.out.1 hC2 hd2); have H2 := Aside0.mk (And.intro hb2 hB2); clear hd2 hC2 hb2 hB2)
   | (refine ⟨trivial, ?_⟩; gi_at_call 20; refine (CallsIn.inRound l (callsIn_wide.2 hEN.out)).mono ?_; rintro e w3 ⟨X3, d3, rfl, hd3, hC3, hb3, hB3⟩; have H3 := Aside0.mk (And.intro hd3 (And.intro hC3 (And.intro hb3 hB3))); clear hd3 hC3 hb3 hB3))
  all_goals (
   obtain ⟨h3, h4, hown, hlC, hkt, hB⟩ := hW.out
   obtain ⟨hd3, hC3, hb3, hB3⟩ := H3.out
   obtain ⟨hb2, hB2⟩ := H2.out
   have hBW : Below W.heap.size W w3 := ((Below.refl W.heap.size W).drew).trans (hB2.trans (hB3.mono hB2.size))
   have HE := Aside0.mk (sealF_snoc ks l1 (pre.map fun x => blkAt tf x.1) (blkAt tf x.1))
   have HEl := Aside0.mk (show (encR ks (xorS (blkAt tf x.1) (sealF ks l1 (pre.map fun x => blkAt tf x.1)).2 16) 10).length = 16 from hC3.1)
   have HN := Aside0.mk (sealF_len ks l1 tf m HM.out HL1l.out pre)
   simp only [sealS] at HE
   obtain ⟨E, hE⟩ : ∃ E, E = encR ks (xorS (blkAt tf x.1) (sealF ks l1 (pre.map fun x => blkAt tf x.1)).2 16) 10 := ⟨_, rfl⟩
   rw [← hE] at hC3 HE HEl
   have h3' : Boxed w3 g3 25 ov := (hBW.block g3 h3.lt).trans h3
   have h4' : Boxed w3 g4 25 _ := (hBW.block g4 h4.lt).trans h4
   have hown3 := Aside0.mk (pw_own_below hown hBW)
   have hcell3 : w3.cell? ⟨g3, 0, none⟩ = some ov := h3'.cell
   have hlt3 := C_lt hC3 (by omega)
   have HB3' := Aside0.mk hBW
   have HC3 := Aside0.mk (And.intro hd3 (And.intro hC3 (And.intro (show W.heap.size ≤ X3.block from Nat.le_trans hB2.size hb3) hlt3)))
   have HX3 := Aside0.mk (And.intro h3' h4')
   clear h3 h4 hown hlC hkt hB hd3 hC3 hb3 hB3 hb2 hB2 hBW h3' h4' hlt3 hE hEN hcell02 H2 H3 hcell0 hcell4 hXO
   have hne34 : g3 ≠ g4 := by have := HG.out; omega
   have hne43 : g4 ≠ g3 := by have := HG.out; omega
   gi_wp2_with (gi_at_builtin; refine wpListIn_append_own_at _ rfl _ _ 25 rfl W0.heap.size 5 i0 (.int .u8 0) 1 1 Try.underlying25 hi hz0 hz1 hz2 rfl (by decide) _ _ _ rfl hown3.out X3 16 d3 (nums .u8 E) rfl (by simp [nums, HEl.out]) (C_nums HC3.out.2.1) (by simp [nums, Value.oneCell']) (by have := HN.out; have := hlt; have := HM1.out; simp only [maxLen]; omega) (by have := HN.out; have := hlt; have := HM1.out; omega) (by have := HB3'.out.size; have := hW.out.2.2.2.2.1.1; omega) ?_; intro v' w4 hown' hgrow hnil hat; obtain ⟨gq, cq, hv'⟩ := ownsRow_succ (k := (sealF ks l1 (pre.map fun x => blkAt tf x.1)).1.length + 15) hown'; have hc3 := (HX3.out.1.kept hgrow (HX3.out.1.not_row (by decide) hown3.out)).cell; have hf3 := (HX3.out.1.kept hgrow (HX3.out.1.not_row (by decide) hown3.out)).frozen; have hc4 := (HX3.out.2.kept hgrow (HX3.out.2.not_row (by decide) hown3.out)).cell; have hf4 := (HX3.out.2.kept hgrow (HX3.out.2.not_row (by decide) hown3.out)).frozen; rw [hv']; have hc4b := (cell_other_block w4 (.slice (some ⟨gq, 0, none⟩) ((sealF ks l1 (pre.map fun x => blkAt tf x.1)).1.length + 15 + 1) cq) hne43).trans hc4; have hf4b := (frozen_other_block w4 (.slice (some ⟨gq, 0, none⟩) ((sealF ks l1 (pre.map fun x => blkAt tf x.1)).1.length + 15 + 1) cq) hne43).trans hf4; have HV := Aside0.mk hv'; have HO' := Aside0.mk (And.intro hown' (And.intro hgrow hat)); clear hown' hgrow hat hnil hv')
   obtain ⟨h3, h4, hown, hlC, hkt, hB⟩ := hW.out
   obtain ⟨hd3, hC3, hb3, hlt3⟩ := HC3.out
   obtain ⟨hl1, hl2, hl3⟩ := hLL.out
   obtain ⟨hg1, hg2, hg3, hg4⟩ := HG.out
   obtain ⟨hsz0, hs5, h15, hadb, ha0, ha1⟩ := HS.out
   have hw3 := h3.lt
   have hw4 := h4.lt
   have hre := round_end (m := m) (W0 := W0) (w := w) (W := W) (w3 := w3) (w4 := w4) (Bs := w1.heap.size) (Bn := w1.heap.size + 1) (f := sealF ks l1) (tf := tf) (E := E) (L := E) (pre := pre) (x := x) (sv := .slice (some ad) (16 * m) Tc) X3 d3 hne34 (by omega) (by omega) (by omega) HX.out.2.2.2.1 HX.out.2.2.2.2 (by omega) (by omega) (by omega) (by omega)
    h3 h4 hown hkt hB HB3'.out HO'.out.1 HO'.out.2.1 HO'.out.2.2 hd3 hC3 (by omega) (by omega) (fun e => by have := own_lt hown _ e.symm; omega) rfl HEl.out (by rw [List.map_append]; exact HE.out)
   rw [HV.out] at hre
   exact hre)
end
theorem two_cells (w : World) (a b c : Array Value) (t1 t2 t3 : TypeId) (v v' : Value) (hb : b = #[v]) (hc : c = #[v']) :
 (((w.alloc (.cells a t1)).alloc (.cells b t2)).alloc (.cells c t3)).cell? ⟨w.heap.size + 1, 0, none⟩ = some v ∧ (((w.alloc (.cells a t1)).alloc (.cells b t2)).alloc (.cells c t3)).cell? ⟨w.heap.size + 1 + 1, 0, none⟩ = some v' ∧
  Below w.heap.size w (((w.alloc (.cells a t1)).alloc (.cells b t2)).alloc (.cells c t3)) := by
 subst hb hc
 have h1 := Boxed.new (w.alloc (.cells a t1)) t2 v
 rw [World.size_alloc] at h1
 have h2 := Boxed.new ((w.alloc (.cells a t1)).alloc (.cells #[v] t2)) t3 v'
 rw [World.size_alloc, World.size_alloc] at h2
 exact ⟨(h1.alloc _).cell, h2.cell, (((Below.refl w.heap.size w).alloc (Nat.le_refl _) _).alloc (by simp) _).alloc (by simp; omega) _⟩
theorem seal_err1 (A0 : Option Addr) (c0 : Nat) (l0 : List Int) (A1 : Option Addr) (c1 : Nat) (l1 : List Int) (A2 : Option Addr) (c2 : Nat) (l2 : List Int) (w : World) (h : l0.length ≠ 16) :
 Calls Try.prog 25 #[.slice A0 l0.length c0, .slice A1 l1.length c1, .slice A2 l2.length c2] w fun e w' => e = .returned (.tuple #[.slice none 0 0, .iface 31 (.int .i64 1)]) ∧ Below w.heap.size w w' := by
 have hn : ¬ (l0.length : Int) = 16 := by omega
 clear h
 go_enter Try.func25, Try.ntmps25
 go_wp2
 obtain ⟨h1, h2, h3⟩ := two_cells w #[.slice A0 l0.length c0] #[.slice none 0 0] #[.iface 31 (.int .i64 1)] 25 25 28 _ _ rfl rfl
 exact bodyPost_ret (results_2c rfl _ _ (w.heap.size + 1) (w.heap.size + 1 + 1) _ _ (agg25 _) (agg28 _) rfl rfl h1 h2) rfl ⟨rfl, h3⟩
theorem seal_err2 (A0 : Option Addr) (c0 : Nat) (A1 : Option Addr) (c1 : Nat) (l1 : List Int) (A2 : Option Addr) (c2 : Nat) (l2 : List Int) (w : World) (h : l1.length ≠ 16) :
 Calls Try.prog 25 #[.slice A0 16 c0, .slice A1 l1.length c1, .slice A2 l2.length c2] w fun e w' => e = .returned (.tuple #[.slice none 0 0, .iface 31 (.int .i64 1)]) ∧ Below w.heap.size w w' := by
 have hn : ¬ (l1.length : Int) = 16 := by omega
 clear h
 go_enter Try.func25, Try.ntmps25
 go_wp2
 obtain ⟨h1, h2, h3⟩ := two_cells w #[.slice A0 16 c0] #[.slice none 0 0] #[.iface 31 (.int .i64 1)] 25 25 28 _ _ rfl rfl
 exact bodyPost_ret (results_2c rfl _ _ (w.heap.size + 1) (w.heap.size + 1 + 1) _ _ (agg25 _) (agg28 _) rfl rfl h1 h2) rfl ⟨rfl, h3⟩
theorem seal_err3 (A0 : Option Addr) (c0 : Nat) (A1 : Option Addr) (c1 : Nat) (A2 : Option Addr) (c2 : Nat) (l2 : List Int) (w : World) (h : 65536 < l2.length) :
 Calls Try.prog 25 #[.slice A0 16 c0, .slice A1 16 c1, .slice A2 l2.length c2] w fun e w' => e = .returned (.tuple #[.slice none 0 0, .iface 31 (.int .i64 4)]) ∧ Below w.heap.size w w' := by
 have hn : (l2.length : Int) > 65536 := by omega
 clear h
 go_enter Try.func25, Try.ntmps25
 go_wp2
 obtain ⟨h1, h2, h3⟩ := two_cells w #[.slice A0 16 c0] #[.slice none 0 0] #[.iface 31 (.int .i64 4)] 25 25 28 _ _ rfl rfl
 exact bodyPost_ret (results_2c rfl _ _ (w.heap.size + 1) (w.heap.size + 1 + 1) _ _ (agg25 _) (agg28 _) rfl rfl h1 h2) rfl ⟨rfl, h3⟩
def cbc_Seal.g (k : Nat) (l1 l2 : List Int) (t : List (List Int) × Option Int) : Option (List Int × Option Int) :=
 (cbc_Fill.f k l2).bind fun tf => if t.2.isNone = true ∧ okK t.1 = true ∧ 17 ≤ k ∧ tf.length % 16 = 0 ∧ 0 < tf.length ∧ tf.length ≤ 65552 then some ((sealF t.1 l1 (blkTo tf (tf.length / 16))).1, none) else none
def cbc_Seal.f (k : Nat) (l0 : List Int) (l1 : List Int) (l2 : List Int) : Option (List Int × Option Int) :=
 if l0.length ≠ 16 then some ([], some 1) else if l1.length ≠ 16 then some ([], some 1) else if 65536 < l2.length then some ([], some 4) else (aes_Keys.f k l0).bind fun t => cbc_Seal.g k l1 l2 t
theorem cbc_Seal.mono : ∀ a0 a1 a2 k, LeO (cbc_Seal.f k a0 a1 a2) (cbc_Seal.f (k + 1) a0 a1 a2) := by
 intro a0 a1 a2 k
 unfold cbc_Seal.f
 refine LeO.ite (LeO.refl _) (LeO.ite (LeO.refl _) (LeO.ite (LeO.refl _) (LeO.bind (aes_Keys.mono _ _) (fun t => ?_))))
 unfold cbc_Seal.g
 refine LeO.bind (cbc_Fill.mono _ _) (fun tf => ?_)
 intro r h
 by_cases hc : t.2.isNone = true ∧ okK t.1 = true ∧ 17 ≤ k ∧ tf.length % 16 = 0 ∧ 0 < tf.length ∧ tf.length ≤ 65552
 · rw [if_pos hc] at h
   rw [if_pos ⟨hc.1, hc.2.1, by omega, hc.2.2.2⟩]
   exact h
 · rw [if_neg hc] at h
   cases h
theorem cbc_Seal.calls (k : Nat) (A0 : Option Addr) (c0 : Nat) (l0 : List Int) (A1 : Option Addr) (c1 : Nat) (l1 : List Int) (A2 : Option Addr) (c2 : Nat) (l2 : List Int) (r1 : List Int) (r2 : Option Int) (w : World)
 (hr0 : Kd.C (Kd.int .u8) w A0 l0.length l0) (hc0 : l0.length ≤ c0) (hr1 : Kd.C (Kd.int .u8) w A1 l1.length l1) (hc1 : l1.length ≤ c1) (hr2 : Kd.C (Kd.int .u8) w A2 l2.length l2) (hc2 : l2.length ≤ c2) (h : cbc_Seal.f k l0 l1 l2 = some (r1, r2)) :
 Calls Try.prog 25 #[.slice A0 l0.length c0, .slice A1 l1.length c1, .slice A2 l2.length c2] w fun e w' => ∃ v0_ : Value, e = .returned (.tuple #[v0_, errW r2]) ∧ Kd.R (Kd.int .u8) 5 w' w.heap.size (fun _ => True) v0_ r1 ∧ Below w.heap.size w w' := by
 unfold cbc_Seal.f at h
 by_cases h0 : l0.length ≠ 16
 · rw [if_pos h0] at h
   injection h with h
   injection h with h1 h2
   subst h1 h2
   exact (seal_err1 A0 c0 l0 A1 c1 l1 A2 c2 l2 w h0).mono fun e w' hh => ⟨_, hh.1, Kd.R_nil _ _ _ _ _, hh.2⟩
 rw [if_neg h0] at h
 have h0' : l0.length = 16 := by omega
 by_cases h1 : l1.length ≠ 16
 · rw [if_pos h1] at h
   injection h with h
   injection h with e1 e2
   subst e1 e2
   rw [h0']
   exact (seal_err2 A0 c0 A1 c1 l1 A2 c2 l2 w h1).mono fun e w' hh => ⟨_, hh.1, Kd.R_nil _ _ _ _ _, hh.2⟩
 rw [if_neg h1] at h
 have h1' : l1.length = 16 := by omega
 by_cases h2 : 65536 < l2.length
 · rw [if_pos h2] at h
   injection h with h
   injection h with e1 e2
   subst e1 e2
   rw [h0', h1']
   exact (seal_err3 A0 c0 A1 c1 A2 c2 l2 w h2).mono fun e w' hh => ⟨_, hh.1, Kd.R_nil _ _ _ _ _, hh.2⟩
 rw [if_neg h2] at h
 obtain ⟨⟨ks, e2⟩, hk, h⟩ := Option.bind_eq_some_iff.mp h
 unfold cbc_Seal.g at h
 obtain ⟨tf, hf, h⟩ := Option.bind_eq_some_iff.mp h
 by_cases hc : (ks, e2).2.isNone = true ∧ okK (ks, e2).1 = true ∧ 17 ≤ k ∧ tf.length % 16 = 0 ∧ 0 < tf.length ∧ tf.length ≤ 65552
 · rw [if_pos hc] at h
   obtain ⟨hn, ho, hk17, hm, hp, hmx⟩ := hc
   injection h with h
   injection h with e3 e4
   subst e3 e4
   obtain rfl : e2 = none := by simpa using hn
   rw [h0'] at hr0 hc0 ⊢
   rw [h1'] at hr1 hc1 ⊢
   exact seal_ok k A0 c0 l0 A1 c1 l1 A2 c2 l2 tf ks (tf.length / 16) w hr0 hc0 hr1 hc1 hr2 hc2 (by omega) hk ho hf (by omega) (by omega) (by omega) hk17
 · rw [if_neg hc] at h
   cases h

end Go.Proofs.Ytpcdkfbngoagnaa.C

-- LEAN
