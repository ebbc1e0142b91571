-- PRINTED by print.py (a twelfth state) out of the translation. Not trusted: Lean checks it.
import Derived.Test.YtpcdkfbngoagnaaHWords
import Derived.Test.YtpcdkfbngoagnaaCx0
import Derived.Test.YtpcdkfbngoagnaaCx3
import Derived.Test.YtpcdkfbngoagnaaCx5
import Derived.Test.YtpcdkfbngoagnaaCx12
import Derived.Test.YtpcdkfbngoagnaaCx18
import Derived.Test.YtpcdkfbngoagnaaCx20
import Derived.Test.YtpcdkfbngoagnaaCx21
namespace Go.Proofs.Ytpcdkfbngoagnaa.C
open Go.RowKit Go.Proofs.YtpcdkfbngoagnaaW.PrintWords Go.Proofs.YtpcdkfbngoagnaaW.PrintLast Go.Proofs.YtpcdkfbngoagnaaW.PrintMore
attribute [local go_sem] max2_int min2_int max_two min_two max_three min_three max_four min_four   -- for this text's walks alone
set_option linter.unusedVariables false
set_option linter.unusedSimpArgs false

-- OWN FILE
/-! ### cbc_Open: function 27 -/
-- IMPORT Derived.Test.YtpcdkfbngoagnaaHWords
theorem oxor_go (b : List Int) (hb : b.length = 16) (a : List Int) (ha : a.length = 16) : ∀ d i m, i + d = 16 → cbc_xor.l0 (m + d + 1) b (xorS a b i) 16 i = some (xorS a b 16) := by
 intro d
 induction d with
 | zero =>
  intro i m h
  obtain rfl : i = 16 := by omega
  simp [cbc_xor.l0]
 | succ d ih =>
  intro i m h
  have hi : i < 16 := by omega
  have hl := xorS_length a b i
  have hw : wrap64 ((i : Int) + 1) = ((i + 1 : Nat) : Int) := by unfold wrap64; omega
  rw [show m + (d + 1) + 1 = (m + d + 1) + 1 from by omega, cbc_xor.l0, if_pos (by omega), if_pos (by omega), if_pos (by omega), if_pos (by omega), hw, ← ih (i + 1) m (by omega)]
  congr 1
  rw [← xorS_set i (by omega), rd, rd]
  simp only [Int.toNat_natCast]
  rw [xorS_get i (by omega)]
theorem oxor_ok (a b : List Int) (ha : a.length = 16) (hb : b.length = 16) (m : Nat) : cbc_xor.f (m + 17) a b = some (xorS a b 16) := by
 unfold cbc_xor.f slices_Clone_byte_byte.f
 rw [if_pos (by omega), Option.bind_some, ha]
 have h := oxor_go b hb a ha 16 0 m (by omega)
 rw [xorS_zero] at h
 exact h
theorem oxor16 (k : Nat) (A : Option Addr) (c : Nat) (a : List Int) (B : Option Addr) (d : Nat) (b : List Int) (hk : 17 ≤ k) (W : World) (ha : Kd.C (Kd.int .u8) W A 16 a) (hc : 16 ≤ c) (hb : Kd.C (Kd.int .u8) W B 16 b) (hd : 16 ≤ d) :
 Calls Try.prog 40 #[.slice A 16 c, .slice B 16 d] W fun e w' => ∃ X c2, e = .returned (.slice (some X) 16 c2) ∧ 16 ≤ c2 ∧ Kd.C (Kd.int .u8) w' (some X) 16 (xorS a b 16) ∧ W.heap.size ≤ X.block ∧ Below W.heap.size W w' := by
 have hal : a.length = 16 := ha.1
 have hbl : b.length = 16 := hb.1
 obtain ⟨m, rfl⟩ : ∃ m, k = m + 17 := ⟨k - 17, by omega⟩
 have h := cbc_xor.calls (m + 17) A c a B d b (xorS a b 16) W (by rw [hal]; exact ha) (by omega) (by rw [hbl]; exact hb) (by omega) (oxor_ok a b hal hbl m)
 rw [hal, hbl] at h
 refine h.mono ?_
 rintro e w' ⟨v, rfl, hR, hB⟩
 obtain ⟨X, c2, rfl⟩ := Kd.R_slice hR
 have hx := xorS_length a b 16
 have hr := Kd.R_reads' hR
 obtain ⟨ad, rfl, _⟩ := hr.2.2.2.2 (by rw [hx]; omega)
 obtain ⟨inner, ho⟩ := Kd.R_own hR
 have hbk := own_base ho ad.block (by simp [Value.ownBlock])
 rw [hx, hal] at hR hr ⊢
 rw [hx, hal] at ho
 exact ⟨ad, c2, rfl, by omega, hr.2.2, hbk, hB⟩
def openS (ks : List (List Int)) (st : List Int × List Int) (b : List Int) : List Int × List Int := (st.1 ++ xorS (decL ks b) st.2 16, b)
def openF (ks : List (List Int)) (l1 : List Int) (bs : List (List Int)) : List Int × List Int := bs.foldl (openS ks) ([], l1)
theorem openF_snoc (ks : List (List Int)) (l1 : List Int) (bs : List (List Int)) (b : List Int) : openF ks l1 (bs ++ [b]) = openS ks (openF ks l1 bs) b := by simp [openF]
theorem decL_length (ks : List (List Int)) (s : List Int) (hs : s.length = 16) : (decL ks s).length = 16 := by
 rw [decL, xorS_length]
 exact decR_length ks s hs 10
theorem openS_len (ks : List (List Int)) : ∀ (bs : List (List Int)) (st : List Int × List Int), st.2.length = 16 → (∀ b ∈ bs, b.length = 16) → (bs.foldl (openS ks) st).2.length = 16 ∧ (bs.foldl (openS ks) st).1.length = st.1.length + 16 * bs.length
 | [], st, h, _ => ⟨h, rfl⟩
 | b :: bs, st, h, hb => by
  have hbl := hb b (by simp)
  have he := decL_length ks b hbl
  have ih := openS_len ks bs (openS ks st b) hbl (fun b hb' => hb b (by simp [hb']))
  rw [List.foldl_cons]
  refine ⟨ih.1, ih.2.trans ?_⟩
  simp only [openS, List.length_append, xorS_length, he, List.length_cons]
  omega
theorem openF_len (ks : List (List Int)) (l1 tf : List Int) (m : Nat) (ht : tf.length = 16 * m) (h1 : l1.length = 16) (pre : List (Fin m)) : (openF ks l1 (pre.map fun x => blkAt tf x.1)).1.length = 16 * pre.length := by
 have := (openS_len ks (pre.map fun x => blkAt tf x.1) ([], l1) h1 (fun b hb => by
  obtain ⟨x, _, rfl⟩ := List.mem_map.1 hb
  exact blkAt_len (by have := x.2; omega))).2
 rw [openF, this]
 simp
theorem dec16 (k : Nat) (A : Option Addr) (c : Nat) (a : List Int) (B : Option Addr) (d : Nat) (b : List Int) (ks : List (List Int)) (hk : aes_Keys.f k a = some (ks, none)) (ho : okK ks = true) (W : World) (ha : Kd.C (Kd.int .u8) W A 16 a) (hc : 16 ≤ c) (hb : Kd.C (Kd.int .u8) W B 16 b) (hd : 16 ≤ d) :
 Calls Try.prog 22 #[.slice A 16 c, .slice B 16 d] W fun e w' => ∃ X c2, e = .returned (.tuple #[.slice (some X) 16 c2, .nilIface]) ∧ 16 ≤ c2 ∧ Kd.C (Kd.int .u8) w' (some X) 16 (decL ks b) ∧ W.heap.size ≤ X.block ∧ Below W.heap.size W w' := by
 have hal : a.length = 16 := ha.1
 have hbl : b.length = 16 := hb.1
 have h := aes_Decrypt.calls k A c a B d b (decL ks b) none W (by rw [hal]; exact ha) (by omega) (by rw [hbl]; exact hb) (by omega) (by simp [aes_Decrypt.f, hk, ho, hbl])
 rw [hal, hbl] at h
 refine h.mono ?_
 rintro e w' ⟨v, rfl, hV, hB⟩
 obtain ⟨X, c2, rfl, hc2, hF⟩ := hV
 have hx := decL_length ks b hbl
 rw [hx] at hc2 hF ⊢
 have hC := Kd.F_now hF
 obtain ⟨ad, rfl, _⟩ := hC.2.2 (by omega)
 exact ⟨ad, c2, rfl, hc2, hC, F_block hF (by omega), hB⟩
theorem oinfo5 : (Try.prog.info? 5).map (fun i => (i.zero, i.size, i.bytes)) = some (some (.int .u8 0), 1, 1) := by kernel_rfl
section
attribute [local go_sem] Oper.semAt_some
attribute [local go_sem ↓ high] builtin_apnd
set_option maxRecDepth 100000 in
set_option maxHeartbeats 8000000 in
theorem open_ok (k : Nat) (A0 : Option Addr) (c0 : Nat) (l0 : List Int) (A1 : Option Addr) (c1 : Nat) (l1 : List Int) (A2 : Option Addr) (c2 : Nat) (tf : List Int) (ks : List (List Int)) (m : Nat) (r1 : List Int) (r2 : Option Int) (w : World)
 (hr0 : Kd.C (Kd.int .u8) w A0 16 l0) (hc0 : 16 ≤ c0) (hr1 : Kd.C (Kd.int .u8) w A1 16 l1) (hc1 : 16 ≤ c1) (hr2 : Kd.C (Kd.int .u8) w A2 (16 * m) tf) (hc2 : 16 * m ≤ c2)
 (hk : aes_Keys.f k l0 = some (ks, none)) (ho : okK ks = true) (hem : cbc_Empty.f k (openF ks l1 (blkTo tf m)).1 = some (r1, r2)) (hm0 : 0 < m) (hm1 : m ≤ 4097) (hk18 : 17 ≤ k) :
 Calls Try.prog 27 #[.slice A0 16 c0, .slice A1 16 c1, .slice A2 (16 * m) c2] w fun e w' => ∃ v0_ : Value, e = .returned (.tuple #[v0_, errW r2]) ∧ Kd.R (Kd.int .u8) 5 w' w.heap.size (fun _ => True) v0_ r1 ∧ Below w.heap.size w w' := by
 refine (callsIn_wide (n := 9)).1 ?_
 refine callsIn_of_wp_marks Try.func27 rfl trivial ?_ rfl
 simp only [Try.ntmps27, List.size_toArray, List.length_cons, List.length_nil, Nat.reduceAdd, Nat.reduceSub, Array.replicate_succ, Array.replicate_zero, List.push_toArray, List.append_toArray, List.nil_append, List.cons_append]
 have hm : tf.length = 16 * m := hr2.1
 have hn0 : ¬ ((16 * m : Nat) : Int) = 0 := by omega
 have hn1 : ((16 * m : Nat) : Int) % 16 = 0 := by omega
 have hle : ¬ ((16 * m : Nat) : Int) > 65552 := by omega
 obtain ⟨mn, hmn⟩ : ∃ mn, mn = 16 * m := ⟨_, rfl⟩
 rw [← hmn] at hn0 hn1 hle ⊢
 obtain ⟨a0, rfl⟩ : ∃ a, A0 = some a := by obtain ⟨a, e, _⟩ := hr0.2.2 (by omega); exact ⟨a, e⟩
 obtain ⟨a1, rfl⟩ : ∃ a, A1 = some a := by obtain ⟨a, e, _⟩ := hr1.2.2 (by omega); exact ⟨a, e⟩
 obtain ⟨ad, rfl⟩ : ∃ a, A2 = some a := by obtain ⟨a, e, _⟩ := hr2.2.2 (by omega); exact ⟨a, e⟩
 have HL0 := Aside0.mk hr0
 have HL1 := Aside0.mk hr1
 have HL2 := Aside0.mk hr2
 have HL1l := Aside0.mk (show l1.length = 16 from hr1.1)
 obtain ⟨i0, hi, hz0, hz1, hz2⟩ := info_parts oinfo5
 have HK := Aside0.mk (And.intro hk ho)
 have HM := Aside0.mk hm
 have HM0 := Aside0.mk hm0
 have HM1 := Aside0.mk hm1
 have HK18 := Aside0.mk hk18
 have HC := Aside0.mk (And.intro hc0 (And.intro hc1 hc2))
 have HEM := Aside0.mk hem
 have HMN := Aside0.mk hmn
 clear hr0 hr1 hr2 hk ho hm hm0 hm1 hk18 hc0 hc1 hc2 hem hmn
 obtain ⟨W5, hW5⟩ : ∃ W5, W5 = (((((w.alloc (.cells #[.slice (some a0) 16 c0] 25)).alloc (.cells #[.slice none 0 0] 25)).alloc (.cells #[.nilIface] 28)).alloc (.cells #[.slice none 0 0] 25)).alloc (.cells #[.slice (some a1) 16 c1] 25)) := ⟨_, rfl⟩
 have HB5 := Aside0.mk (show Below w.heap.size w W5 by rw [hW5]; exact (((((Below.refl _ w).alloc (Nat.le_refl _) _).alloc (by simp) _).alloc (by simp; omega) _).alloc (by simp; omega) _).alloc (by simp; omega) _)
 have HS5 := Aside0.mk (show W5.heap.size = w.heap.size + 5 by rw [hW5]; simp)
 have HX0 := Aside0.mk (show Boxed W5 w.heap.size 25 (.slice (some a0) 16 c0) by rw [hW5]; exact ((((Boxed.new w 25 _).alloc _).alloc _).alloc _).alloc _)
 have HX1 := Aside0.mk (show Boxed W5 (w.heap.size + 1) 25 (.slice none 0 0) by rw [hW5]; have := Boxed.new (w.alloc (.cells #[.slice (some a0) 16 c0] 25)) 25 (.slice none 0 0); rw [World.size_alloc] at this; exact ((this.alloc _).alloc _).alloc _)
 have HX2 := Aside0.mk (show Boxed W5 (w.heap.size + 1 + 1) 28 .nilIface by rw [hW5]; have := Boxed.new ((w.alloc (.cells #[.slice (some a0) 16 c0] 25)).alloc (.cells #[.slice none 0 0] 25)) 28 .nilIface; rw [World.size_alloc, World.size_alloc] at this; exact (this.alloc _).alloc _)
 have HX3 := Aside0.mk (show Boxed W5 (w.heap.size + 1 + 1 + 1) 25 (.slice none 0 0) by rw [hW5]; have := Boxed.new (((w.alloc (.cells #[.slice (some a0) 16 c0] 25)).alloc (.cells #[.slice none 0 0] 25)).alloc (.cells #[.nilIface] 28)) 25 (.slice none 0 0); rw [World.size_alloc, World.size_alloc, World.size_alloc] at this; exact this.alloc _)
 have HX4 := Aside0.mk (show Boxed W5 (w.heap.size + 1 + 1 + 1 + 1) 25 (.slice (some a1) 16 c1) by rw [hW5]; have := Boxed.new ((((w.alloc (.cells #[.slice (some a0) 16 c0] 25)).alloc (.cells #[.slice none 0 0] 25)).alloc (.cells #[.nilIface] 28)).alloc (.cells #[.slice none 0 0] 25)) 25 (.slice (some a1) 16 c1); rw [World.size_alloc, World.size_alloc, World.size_alloc, World.size_alloc] at this; exact this)
 have HW5 := Aside0.mk hW5
 clear hW5
 gi_wp2_with fail
 rw [← HW5.out]
 clear HW5
 generalize e4 : w.heap.size + 1 + 1 + 1 + 1 = g4 at HX4 ⊢
 generalize e3 : w.heap.size + 1 + 1 + 1 = g3 at HX3 ⊢
 generalize e2 : w.heap.size + 1 + 1 = g2 at HX2 ⊢
 generalize e1 : w.heap.size + 1 = g1 at HX1 ⊢
 have HG := Aside0.mk (show g1 = w.heap.size + 1 ∧ g2 = w.heap.size + 2 ∧ g3 = w.heap.size + 3 ∧ g4 = w.heap.size + 4 from ⟨by omega, by omega, by omega, by omega⟩)
 clear e1 e2 e3 e4
 refine ⟨trivial, ?_⟩
 refine (callsIn_wide.2 (chunk_in _ _ _ _)).mono ?_
 rintro e w' ⟨rfl, rfl⟩
 gi_wp2_with fail
 have hmn := HMN.out
 clear HMN
 subst hmn
 obtain ⟨W0, hW0⟩ : ∃ W0, W0 = ((W5.alloc (.cells #[.slice (some ad) (16 * m) c2] 25)).alloc (.cells #[.int .i64 16] 3)) := ⟨_, rfl⟩
 rw [← hW0]
 have hb10 : Below W5.heap.size W5 W0 := by rw [hW0]; exact ((Below.refl _ W5).alloc (Nat.le_refl _) _).alloc (by simp) _
 have hsz0 : W0.heap.size = W5.heap.size + 2 := by rw [hW0]; simp
 have hYs : Boxed W0 W5.heap.size 25 (.slice (some ad) (16 * m) c2) := by rw [hW0]; exact (Boxed.new W5 25 _).alloc _
 have hYn : Boxed W0 (W5.heap.size + 1) 3 (.int .i64 16) := by rw [hW0]; have := Boxed.new (W5.alloc (.cells #[.slice (some ad) (16 * m) c2] 25)) 3 (.int .i64 16); rw [World.size_alloc] at this; exact this
 clear hW0
 obtain ⟨hg1, hg2, hg3, hg4⟩ := HG.out
 have hs5 := HS5.out
 have move : ∀ {b : Nat} {t : TypeId} {v : Value}, Boxed W5 b t v → Boxed W0 b t v := fun {b t v} h => (hb10.block b h.lt).trans h
 have X0 := move HX0.out
 have X1 := move HX1.out
 have X2 := move HX2.out
 have X3 := move HX3.out
 have X4 := move HX4.out
 have hB0 : Below w.heap.size w W0 := below_step HB5.out hb10
 have hCt : Kd.C (Kd.int .u8) W0 (some ad) (16 * m) tf := Kd.C_below HL2.out hB0
 have hC0 : Kd.C (Kd.int .u8) W0 (some a0) 16 l0 := Kd.C_below HL0.out hB0
 have hC1 : Kd.C (Kd.int .u8) W0 (some a1) 16 l1 := Kd.C_below HL1.out hB0
 have ha0 := C_lt HL0.out (by omega)
 have ha1 := C_lt HL1.out (by omega)
 have hadb := C_lt HL2.out (by have := HM0.out; omega)
 have hI0 : SealI m W0 w g3 g4 (openF ks l1) tf [] W0 := ⟨_, _, X3, X4, World.ownsRow_nil _ _ _ _, ⟨a1, c1, rfl, HC.out.2.1, hC1, by omega, by omega, by simp [Value.ownBlock]⟩, KeepTwo.refl _ _ _, hB0⟩
 have HI0 := Aside0.mk hI0
 have HX := Aside0.mk (And.intro X0 (And.intro X1 (And.intro X2 (And.intro hYs hYn))))
 have HS := Aside0.mk (And.intro hsz0 (And.intro hs5 (And.intro hadb (And.intro ha0 ha1))))
 have HCC := Aside0.mk (And.intro hC0 hCt)
 have HB00 := Aside0.mk hB0
 have hseq := chunk_stops 8 (by omega) W5.heap.size (W5.heap.size + 1) m c2 ad HC.out.2.2 (by have := HM1.out; omega) W0 (by omega) (by omega) hYs.cell hYn.cell
 clear hI0 X0 X1 X2 X3 X4 hYs hYn hC0 hC1 hCt hadb ha0 ha1 hsz0 hb10 hs5 hB0 HB5 HS5 HX0 HX1 HX2 HX3 HX4 HL0 HL1 HL2 move hg1 hg2 hg3 hg4 hn0 hn1 hle
 refine wpIn_rangeFunc_ownG rfl (by omega) (gf := 44) (lb := #[.pointer (some ⟨W5.heap.size, 0, none⟩), .pointer (some ⟨W5.heap.size + 1, 0, none⟩)]) rfl trivial (enters_of Try.func44 (by kernel_rfl) rfl)
  hseq KpC_t (fun W l o o' hl h hc hw => KpC_b (w := W0) W l o o' hl h hc hw) (Below.refl _ _) (fun _ => rfl)
  (SealI m W0 w g3 g4 (openF ks l1) tf) (fun _ _ _ => False) (SealI_own HB00.out.size) (fun _ _ _ _ _ hs _ _ => hs) HI0.out
  (fun x => { tmps := #[.slice (some a0) 16 c0, .slice (some a1) 16 c1, .slice (some ad) (16 * m) c2, .pointer (some ⟨w.heap.size, 0, none⟩), undef, undef,
   .pointer (some ⟨g1, 0, none⟩), .pointer (some ⟨g2, 0, none⟩), .pointer (some ⟨g3, 0, none⟩), .pointer (some ⟨g4, 0, none⟩), .slice (some (ad.add (16 * x.1))) 16 16, undef,
   undef, .slice (some a0) 16 c0, .int .i64 16, .bool false, .bool false,
   .slice (some a1) 16 c1, .int .i64 16, .bool false, .bool false, .bool false,
   .slice (some ad) (16 * m) c2, .int .i64 ((16 * m : Nat) : Int), .bool false, .bool false, .bool false,
   .slice (some ad) (16 * m) c2, .int .i64 ((16 * m : Nat) : Int), .int .i64 0, .bool false, .bool false, undef,
   .slice (some ad) (16 * m) c2, .int .i64 ((16 * m : Nat) : Int), .bool false, undef, .slice (some a1) 16 c1, .slice (some ad) (16 * m) c2,
   .func (.func 44) #[] #[.pointer (some ⟨W5.heap.size, 0, none⟩), .pointer (some ⟨W5.heap.size + 1, 0, none⟩)],
   .slice (some (ad.add (16 * x.1))) 16 16, undef, undef, undef, undef, undef, undef, undef, undef, undef, undef, undef, undef, undef, undef, undef, undef, undef, undef, undef], defers := [] }) ?assign ?body ?done ?stop
 case assign =>
  intro l x W K hK
  gi_wp2
  exact hK
 case stop =>
  rintro D c pre W _ _ h _
  exact h.elim
 case done =>
  rintro D ys W hD rfl ⟨ov, lv, h3, h4, hown, hlast, hkt, hB⟩ hK
  obtain ⟨hg1, hg2, hg3, hg4⟩ := HG.out
  have hln := openF_len ks l1 tf m HM.out HL1l.out (List.finRange m)
  have hmap : ((List.finRange m).map fun x => blkAt tf x.1) = blkTo tf m := by
   apply List.ext_getElem
   · simp [blkTo]
   · intro i h1 h2
     simp [blkTo]
  rw [hmap] at hown hln
  have hRo : Kd.R (Kd.int .u8) 5 W W0.heap.size (fun _ => True) ov (openF ks l1 (blkTo tf m)).1 := Kd.R_of_own hown (fun _ _ => trivial)
  obtain ⟨OA, oc, rfl⟩ := Kd.R_slice hRo
  have hRr := Kd.R_reads' hRo
  have HE := Aside0.mk (cbc_Empty.calls k OA oc _ r1 r2 W hRr.2.2 hRr.2.1 HEM.out)
  have hX1 := hkt.box HX.out.2.1 (by omega) (by omega)
  have hX2 := hkt.box HX.out.2.2.1 (by omega) (by omega)
  have hc3 := h3.cell
  have HH := Aside0.mk (And.intro hX1 (And.intro hX2 (And.intro hB (And.intro hkt.1 (And.intro hg1 (And.intro hg2 (And.intro hg3 hD)))))))
  clear hlast hkt hB h3 h4 hX1 hX2 hown hg1 hg2 hg3 hg4 hmap hln hD hRo hRr
  gi_wp2_with fail
  refine ⟨trivial, ?_⟩
  refine (callsIn_wide.2 HE.out).mono ?_
  rintro e w5 ⟨v0, rfl, hR5, hB5⟩
  clear HE
  obtain ⟨RA, rc, rfl⟩ := Kd.R_slice hR5
  have hDlt : D < W.heap.size := (Array.getElem?_eq_some_iff.1 hK).1
  have hK5 : w5.heap[D]? = some (.deferred (some [])) := (hB5.block D hDlt).trans hK
  have hY1 : Boxed w5 g1 25 _ := (hB5.block g1 HH.out.1.lt).trans HH.out.1
  have hY2 : Boxed w5 g2 28 _ := (hB5.block g2 HH.out.2.1.lt).trans HH.out.2.1
  have hc1 := hY1.cell
  have hf1 := hY1.frozen
  have hne : g2 ≠ g1 := by have := HG.out; omega
  have hc2 := (cell_other_block w5 (.slice RA r1.length rc) hne).trans hY2.cell
  have hf2 := (frozen_other_block w5 (.slice RA r1.length rc) hne).trans hY2.frozen
  have HR5 := Aside0.mk hR5
  have HB5 := Aside0.mk hB5
  have HY := Aside0.mk (And.intro hY1 hY2)
  have HDD := Aside0.mk (And.intro hDlt hK5)
  clear hR5 hB5 hY1 hY2 hDlt hK hK5 hc3
  obtain ⟨ev, hev⟩ : ∃ ev, ev = errW r2 := ⟨_, rfl⟩
  rw [← hev]
  have hev1 : ev = .nilIface ∨ ∃ c : Int, ev = .iface 31 (.int .i64 c) := by
   rw [hev]
   cases r2 with
   | none => exact .inl rfl
   | some c => exact .inr ⟨c, rfl⟩
  have HEV := Aside0.mk hev
  clear hev
  have fin : ∀ (w6 : World), w6 = (w5.setCell ⟨g1, 0, none⟩ (.slice RA r1.length rc)).setCell ⟨g2, 0, none⟩ ev → (w6.heap[D]? = some (.deferred (some []))) ∧ (w6.putObj D (.deferred none)).cell? ⟨g1, 0, none⟩ = some (.slice RA r1.length rc) ∧ (w6.putObj D (.deferred none)).cell? ⟨g2, 0, none⟩ = some ev ∧
   Kd.R (Kd.int .u8) 5 (w6.putObj D (.deferred none)) w.heap.size (fun _ => True) (.slice RA r1.length rc) r1 ∧ Below w.heap.size w (w6.putObj D (.deferred none)) := by
   rintro w6 rfl
   obtain ⟨hX1, hX2, hB, hkt, hg1, hg2, hg3, hD⟩ := HH.out
   obtain ⟨hY1, hY2⟩ := HY.out
   obtain ⟨hDlt, hK5⟩ := HDD.out
   have hK6 := ((KeepsOthers.setCell w5 ⟨g1, 0, none⟩ (.slice RA r1.length rc)).trans (KeepsOthers.setCell _ ⟨g2, 0, none⟩ ev)).same D _ hK5 rfl
   have hZ1 : Boxed ((w5.setCell ⟨g1, 0, none⟩ (.slice RA r1.length rc)).setCell ⟨g2, 0, none⟩ ev) g1 25 _ := (Below.heap_setCell _ _ _ g1 (by simp only; omega)).trans (hY1.set _)
   have hZ2 : Boxed ((w5.setCell ⟨g1, 0, none⟩ (.slice RA r1.length rc)).setCell ⟨g2, 0, none⟩ ev) g2 28 ev := Boxed.set (v := .nilIface) _ ((Below.heap_setCell _ _ _ g2 (by simp only; omega)).trans hY2)
   have h1lt := hX1.lt
   have h2lt := hX2.lt
   refine ⟨hK6, cell_putObj hK6 rfl hZ1.cell, cell_putObj hK6 rfl hZ2.cell, ?_, ?_⟩
   · have h' := Kd.R_mono (Kd.R_bound HR5.out) (ok' := fun k => W.heap.size ≤ k) (fun k hk => hk.2.1)
     refine Kd.R_lower (Kd.R_mono (Kd.R_step h' (fun k hk hlt => ?_)) (fun _ _ => trivial)) (Nat.le_trans HB00.out.size hkt)
     rw [World.putObj_heap_other (by omega), Below.heap_setCell _ _ _ k (by simp only; omega), Below.heap_setCell _ _ _ k (by simp only; omega)]
   · have hb5 : Below w.heap.size w w5 := below_step hB HB5.out
     refine ((hb5.setCell (p := ⟨g1, 0, none⟩) (by simp only; omega) _).setCell (p := ⟨g2, 0, none⟩) (by simp only; omega) _).trans (belowK_b (w := w) (Nat.le_refl _) _ D _ _ ?_ hK6 rfl rfl)
     exact Nat.le_trans HB00.out.size hD
  have HFIN := Aside0.mk fin
  clear fin
  rcases hev1 with rfl | ⟨c, rfl⟩
  all_goals (
   gi_wp2
   obtain ⟨hK6, hz1, hz2, hRf, hBf⟩ := HFIN.out _ rfl
   rw [← HEV.out]
   refine ⟨by simp, .inl ⟨_, _, rfl, run_takeDeferred hK6, ?_⟩⟩
   exact ⟨_, results_2c rfl _ _ g1 g2 _ _ (agg25 _) (agg28 _) rfl rfl hz1 hz2, _, rfl, hRf, hBf⟩)
 case body =>
  rintro l pre x W ⟨ov, lv, h3, h4, hown, ⟨la, lc, rfl, hlc, hlC, hl1, hl2, hl3⟩, hkt, hB⟩ hlt
  have hx := x.2
  obtain ⟨hg1, hg2, hg3, hg4⟩ := HG.out
  obtain ⟨hsz0, hs5, hadb, ha0, ha1⟩ := HS.out
  have hX0 := Aside0.mk (hkt.box HX.out.1 (by omega) (by omega))
  have hC0 := Aside0.mk (C_block HCC.out.1 (hkt.2 a0.block (by omega) (by omega) (by omega)))
  have hCb := Aside0.mk (C_blk (C_block HCC.out.2 (hkt.2 ad.block (by omega) (by omega) (by omega))) (show 16 * x.1 + 16 ≤ 16 * m by omega))
  have hDE := Aside0.mk (dec16 k _ c0 _ _ 16 _ ks HK.out.1 HK.out.2 W hC0.out HC.out.1 hCb.out (Nat.le_refl _))
  have hcell0 : W.cell? ⟨w.heap.size, 0, none⟩ = some (.slice (some a0) 16 c0) := hX0.out.cell
  have hW := Aside0.mk (And.intro h3 (And.intro h4 (And.intro hown (And.intro hlC (And.intro hkt hB)))))
  have hLL := Aside0.mk (And.intro hl1 (And.intro hl2 (And.intro hl3 hlc)))
  have hLT := Aside0.mk hlt
  have HN := Aside0.mk (openF_len ks l1 tf m HM.out HL1l.out pre)
  have HE := Aside0.mk (openF_snoc ks l1 (pre.map fun x => blkAt tf x.1) (blkAt tf x.1))
  clear h3 h4 hown hlC hkt hB hl1 hl2 hl3 hlc hg1 hg2 hg3 hg4 hsz0 hs5 hadb ha0 ha1 hlt
  have hmx : Try.prog.follows .mixedOrders = true := by kernel_rfl
  gi_wp2_with fail
  refine ⟨trivial, ?_⟩
  refine (CallsIn.inRound l (callsIn_wide.2 hDE.out)).mono ?_
  rintro e w2 ⟨X2, d2, rfl, hd2, hC2, hb2, hB2⟩
  clear hDE hcell0
  have hBd : Below W.heap.size W w2.drew := hB2.drew
  have h3 : Boxed w2.drew g3 25 ov := (hBd.block g3 hW.out.1.lt).trans hW.out.1
  have h4 : Boxed w2.drew g4 25 _ := (hBd.block g4 hW.out.2.1.lt).trans hW.out.2.1
  have hcell3 : w2.drew.cell? ⟨g3, 0, none⟩ = some ov := h3.cell
  have hcell4 : w2.drew.cell? ⟨g4, 0, none⟩ = some (.slice (some la) 16 lc) := h4.cell
  have hlC : Kd.C (Kd.int .u8) w2.drew (some la) 16 _ := Kd.C_below hW.out.2.2.2.1 hBd
  have hXO := Aside0.mk (oxor16 k _ d2 _ _ lc _ HK18.out w2.drew (Kd.C_below hC2 ((Below.refl w2.heap.size w2).drew)) hd2 hlC hLL.out.2.2.2)
  have H34 := Aside0.mk (And.intro h3 (And.intro h4 hBd))
  have hown2 := Aside0.mk (pw_own_below hW.out.2.2.1 hBd)
  have hCb2 := Aside0.mk (Kd.C_below hCb.out hBd)
  have HEl := Aside0.mk (show (decL ks (blkAt tf x.1)).length = 16 from hC2.1)
  clear h3 h4 hlC hBd hd2 hC2 hb2 hB2
  simp only [openS] at HE
  obtain ⟨E, hE⟩ : ∃ E, E = xorS (decL ks (blkAt tf x.1)) (openF ks l1 (pre.map fun x => blkAt tf x.1)).2 16 := ⟨_, rfl⟩
  rw [← hE] at hXO HE
  have HEl := Aside0.mk (show E.length = 16 by rw [hE, xorS_length]; exact HEl.out)
  clear hE
  have hne34 : g3 ≠ g4 := by have := HG.out; omega
  have hne43 : g4 ≠ g3 := by have := HG.out; omega
  have hstep : ∀ (w3 : World) (X3 : Addr) (d3 : Nat), Kd.C (Kd.int .u8) w3 (some X3) 16 E → Below w2.drew.heap.size w2.drew w3 → w3.cell? ⟨g3, 0, none⟩ = some ov ∧ ∃ w4 gq cq, (apnd #[25, 25] 25 #[ov, .slice (some X3) 16 d3]).run Try.prog w3 = .ok (.slice (some ⟨gq, 0, none⟩) ((openF ks l1 (pre.map fun x => blkAt tf x.1)).1.length + 15 + 1) cq) w4 ∧
   w4.cell? ⟨g3, 0, none⟩ = some ov ∧ w4.frozen? ⟨g3, 0, none⟩ = false ∧ w4.cell? ⟨g4, 0, none⟩ = some (.slice (some la) 16 lc) ∧ w4.frozen? ⟨g4, 0, none⟩ = false ∧
   (w4.setCell ⟨g3, 0, none⟩ (.slice (some ⟨gq, 0, none⟩) ((openF ks l1 (pre.map fun x => blkAt tf x.1)).1.length + 15 + 1) cq)).cell? ⟨g4, 0, none⟩ = some (.slice (some la) 16 lc) ∧ (w4.setCell ⟨g3, 0, none⟩ (.slice (some ⟨gq, 0, none⟩) ((openF ks l1 (pre.map fun x => blkAt tf x.1)).1.length + 15 + 1) cq)).frozen? ⟨g4, 0, none⟩ = false ∧
   Aside0 (Below W.heap.size W w3 ∧ w4.ownsRow W0.heap.size 5 1 (.slice (some ⟨gq, 0, none⟩) ((openF ks l1 (pre.map fun x => blkAt tf x.1)).1.length + 15 + 1) cq) ((openF ks l1 (pre.map fun x => blkAt tf x.1)).1.length + 16) (nums .u8 (openF ks l1 (pre.map fun x => blkAt tf x.1)).1 ++ nums .u8 E) ∧ w3.grownBy w4 ov.ownBlock ∧ ((Value.slice (some ⟨gq, 0, none⟩) ((openF ks l1 (pre.map fun x => blkAt tf x.1)).1.length + 15 + 1) cq).ownBlock = ov.ownBlock ∨ (Value.slice (some ⟨gq, 0, none⟩) ((openF ks l1 (pre.map fun x => blkAt tf x.1)).1.length + 15 + 1) cq).ownBlock = some w3.heap.size) ∧ Kd.C (Kd.int .u8) w3 (some (ad.add (16 * x.1))) 16 (blkAt tf x.1)) := by
   intro w3 X3 d3 hC3 hB3
   have hBW := H34.out.2.2.trans (hB3.mono H34.out.2.2.size)
   have h3 : Boxed w3 g3 25 ov := (hB3.block g3 H34.out.1.lt).trans H34.out.1
   have h4 : Boxed w3 g4 25 _ := (hB3.block g4 H34.out.2.1.lt).trans H34.out.2.1
   have hown3 := pw_own_below hown2.out hB3
   obtain ⟨v', w4, hrun, hown', hgrow, hnil, hat⟩ := run_append_own_at (P := Try.prog) w3 W0.heap.size 25 25 5 i0 (.int .u8 0) 1 1 Try.underlying25 hi hz0 hz1 hz2 rfl (by decide) ov (openF ks l1 (pre.map fun x => blkAt tf x.1)).1.length (nums .u8 (openF ks l1 (pre.map fun x => blkAt tf x.1)).1) hown3 X3 16 d3 (nums .u8 E) (by simp [nums, HEl.out]) (C_nums hC3) (by simp [nums, Value.oneCell']) (by have := HN.out; have := hLT.out; have := HM1.out; simp only [maxLen]; omega) (by have := HN.out; have := hLT.out; have := HM1.out; omega) (by have := hBW.size; have := hW.out.2.2.2.2.1.1; omega)
   obtain ⟨gq, cq, rfl⟩ := ownsRow_succ (k := (openF ks l1 (pre.map fun x => blkAt tf x.1)).1.length + 15) hown'
   have h3' := h3.kept hgrow (h3.not_row (by decide) hown3)
   have h4' := h4.kept hgrow (h4.not_row (by decide) hown3)
   exact ⟨h3.cell, w4, gq, cq, hrun, h3'.cell, h3'.frozen, h4'.cell, h4'.frozen, (cell_other_block w4 _ hne43).trans h4'.cell, (frozen_other_block w4 _ hne43).trans h4'.frozen, ⟨hBW, hown', hgrow, hat, Kd.C_below hCb2.out hB3⟩⟩
  have HST := Aside0.mk hstep
  clear hstep
  gi_wp2_with fail
  gi_region_with_o (first
   | (refine ⟨trivial, ?_⟩; gi_at_call 40; refine (CallsIn.inRound l (callsIn_wide.2 hXO.out)).mono ?_; rintro e w3 ⟨X3, d3, rfl, hd3, hC3, hb3, hB3⟩; obtain ⟨hcx3, w4, gq, cq, hrun, hc3, hf3, hc4, hf4, hc4b, hf4b, HF⟩ := HST.out w3 X3 d3 hC3 hB3; clear hd3 hC3 hb3 hB3))
  all_goals (
   gi_wp2
   obtain ⟨h3, h4, hown, hlC, hkt, hB⟩ := hW.out
   obtain ⟨hBW, hown', hgrow, hat, hC⟩ := HF.out
   obtain ⟨hg1, hg2, hg3, hg4⟩ := HG.out
   obtain ⟨hsz0, hs5, hadb, ha0, ha1⟩ := HS.out
   have hab := add_block ad (16 * x.1)
   exact round_end (m := m) (W0 := W0) (w := w) (W := W) (w3 := w3) (w4 := w4) (Bs := W5.heap.size) (Bn := W5.heap.size + 1) (f := openF ks l1) (tf := tf) (E := E) (L := blkAt tf x.1) (pre := pre) (x := x) (sv := .slice (some ad) (16 * m) c2) (ad.add (16 * x.1)) 16 hne34 (by omega) (by omega) (by omega) HX.out.2.2.2.1 HX.out.2.2.2.2 (by omega) (by omega) (by omega) (by omega)
    h3 h4 hown hkt hB hBW hown' hgrow hat (Nat.le_refl _) hC (by omega) (by omega) (fun e => by have := own_base hown _ e.symm; omega) rfl HEl.out (by rw [List.map_append]; exact HE.out))
end
theorem otwo_cells (w : World) (a b c : Array Value) (t1 t2 t3 : TypeId) (v v' : Value) (hb : b = #[v]) (hc : c = #[v']) :
 (((w.alloc (.cells a t1)).alloc (.cells b t2)).alloc (.cells c t3)).cell? ⟨w.heap.size + 1, 0, none⟩ = some v ∧ (((w.alloc (.cells a t1)).alloc (.cells b t2)).alloc (.cells c t3)).cell? ⟨w.heap.size + 1 + 1, 0, none⟩ = some v' ∧
  Below w.heap.size w (((w.alloc (.cells a t1)).alloc (.cells b t2)).alloc (.cells c t3)) := by
 subst hb hc
 have h1 := Boxed.new (w.alloc (.cells a t1)) t2 v
 rw [World.size_alloc] at h1
 have h2 := Boxed.new ((w.alloc (.cells a t1)).alloc (.cells #[v] t2)) t3 v'
 rw [World.size_alloc, World.size_alloc] at h2
 exact ⟨(h1.alloc _).cell, h2.cell, (((Below.refl w.heap.size w).alloc (Nat.le_refl _) _).alloc (by simp) _).alloc (by simp; omega) _⟩
theorem open_err1 (A0 : Option Addr) (c0 : Nat) (l0 : List Int) (A1 : Option Addr) (c1 : Nat) (l1 : List Int) (A2 : Option Addr) (c2 : Nat) (l2 : List Int) (w : World) (h : l0.length ≠ 16) :
 Calls Try.prog 27 #[.slice A0 l0.length c0, .slice A1 l1.length c1, .slice A2 l2.length c2] w fun e w' => e = .returned (.tuple #[.slice none 0 0, .iface 31 (.int .i64 1)]) ∧ Below w.heap.size w w' := by
 have hn : ¬ (l0.length : Int) = 16 := by omega
 clear h
 go_enter Try.func27, Try.ntmps27
 go_wp2
 obtain ⟨h1, h2, h3⟩ := otwo_cells w #[.slice A0 l0.length c0] #[.slice none 0 0] #[.iface 31 (.int .i64 1)] 25 25 28 _ _ rfl rfl
 exact bodyPost_ret (results_2c rfl _ _ (w.heap.size + 1) (w.heap.size + 1 + 1) _ _ (agg25 _) (agg28 _) rfl rfl h1 h2) rfl ⟨rfl, h3⟩
theorem open_err2 (A0 : Option Addr) (c0 : Nat) (A1 : Option Addr) (c1 : Nat) (l1 : List Int) (A2 : Option Addr) (c2 : Nat) (l2 : List Int) (w : World) (h : l1.length ≠ 16) :
 Calls Try.prog 27 #[.slice A0 16 c0, .slice A1 l1.length c1, .slice A2 l2.length c2] w fun e w' => e = .returned (.tuple #[.slice none 0 0, .iface 31 (.int .i64 1)]) ∧ Below w.heap.size w w' := by
 have hn : ¬ (l1.length : Int) = 16 := by omega
 clear h
 go_enter Try.func27, Try.ntmps27
 go_wp2
 obtain ⟨h1, h2, h3⟩ := otwo_cells w #[.slice A0 16 c0] #[.slice none 0 0] #[.iface 31 (.int .i64 1)] 25 25 28 _ _ rfl rfl
 exact bodyPost_ret (results_2c rfl _ _ (w.heap.size + 1) (w.heap.size + 1 + 1) _ _ (agg25 _) (agg28 _) rfl rfl h1 h2) rfl ⟨rfl, h3⟩
theorem open_err3 (A0 : Option Addr) (c0 : Nat) (A1 : Option Addr) (c1 : Nat) (A2 : Option Addr) (c2 : Nat) (w : World)  :
 Calls Try.prog 27 #[.slice A0 16 c0, .slice A1 16 c1, .slice A2 0 c2] w fun e w' => e = .returned (.tuple #[.slice none 0 0, .iface 31 (.int .i64 1)]) ∧ Below w.heap.size w w' := by
 go_enter Try.func27, Try.ntmps27
 go_wp2
 obtain ⟨h1, h2, h3⟩ := otwo_cells w #[.slice A0 16 c0] #[.slice none 0 0] #[.iface 31 (.int .i64 1)] 25 25 28 _ _ rfl rfl
 exact bodyPost_ret (results_2c rfl _ _ (w.heap.size + 1) (w.heap.size + 1 + 1) _ _ (agg25 _) (agg28 _) rfl rfl h1 h2) rfl ⟨rfl, h3⟩
theorem open_err4 (A0 : Option Addr) (c0 : Nat) (A1 : Option Addr) (c1 : Nat) (A2 : Option Addr) (c2 n : Nat) (w : World) (h0 : n ≠ 0) (h : n % 16 ≠ 0) :
 Calls Try.prog 27 #[.slice A0 16 c0, .slice A1 16 c1, .slice A2 n c2] w fun e w' => e = .returned (.tuple #[.slice none 0 0, .iface 31 (.int .i64 1)]) ∧ Below w.heap.size w w' := by
 have hn0 : ((n : Int) == 0) = false := by simpa using h0
 have hn : ((n : Int) % 16 != 0) = true := by simp only [bne_iff_ne, ne_eq]; omega
 clear h h0
 go_enter Try.func27, Try.ntmps27
 go_wp2
 obtain ⟨h1, h2, h3⟩ := otwo_cells w #[.slice A0 16 c0] #[.slice none 0 0] #[.iface 31 (.int .i64 1)] 25 25 28 _ _ rfl rfl
 exact bodyPost_ret (results_2c rfl _ _ (w.heap.size + 1) (w.heap.size + 1 + 1) _ _ (agg25 _) (agg28 _) rfl rfl h1 h2) rfl ⟨rfl, h3⟩
theorem open_err5 (A0 : Option Addr) (c0 : Nat) (A1 : Option Addr) (c1 : Nat) (A2 : Option Addr) (c2 n : Nat) (w : World) (h : n % 16 = 0) (h2 : 65552 < n) :
 Calls Try.prog 27 #[.slice A0 16 c0, .slice A1 16 c1, .slice A2 n c2] w fun e w' => e = .returned (.tuple #[.slice none 0 0, .iface 31 (.int .i64 4)]) ∧ Below w.heap.size w w' := by
 have hn0 : ¬ (n : Int) = 0 := by omega
 have hn : (n : Int) % 16 = 0 := by omega
 have hn2 : (n : Int) > 65552 := by omega
 clear h h2
 go_enter Try.func27, Try.ntmps27
 go_wp2
 obtain ⟨h1, h2, h3⟩ := otwo_cells w #[.slice A0 16 c0] #[.slice none 0 0] #[.iface 31 (.int .i64 4)] 25 25 28 _ _ rfl rfl
 exact bodyPost_ret (results_2c rfl _ _ (w.heap.size + 1) (w.heap.size + 1 + 1) _ _ (agg25 _) (agg28 _) rfl rfl h1 h2) rfl ⟨rfl, h3⟩
def cbc_Open.g (k : Nat) (l1 l2 : List Int) (t : List (List Int) × Option Int) : Option (List Int × Option Int) :=
 if t.2.isNone = true ∧ okK t.1 = true ∧ 17 ≤ k then cbc_Empty.f k (openF t.1 l1 (blkTo l2 (l2.length / 16))).1 else none
def cbc_Open.f (k : Nat) (l0 : List Int) (l1 : List Int) (l2 : List Int) : Option (List Int × Option Int) :=
 if l0.length ≠ 16 then some ([], some 1) else if l1.length ≠ 16 then some ([], some 1) else if l2.length = 0 then some ([], some 1) else if l2.length % 16 ≠ 0 then some ([], some 1) else if 65552 < l2.length then some ([], some 4) else (aes_Keys.f k l0).bind fun t => cbc_Open.g k l1 l2 t
theorem cbc_Open.mono : ∀ a0 a1 a2 k, LeO (cbc_Open.f k a0 a1 a2) (cbc_Open.f (k + 1) a0 a1 a2) := by
 intro a0 a1 a2 k
 unfold cbc_Open.f
 refine LeO.ite (LeO.refl _) (LeO.ite (LeO.refl _) (LeO.ite (LeO.refl _) (LeO.ite (LeO.refl _) (LeO.ite (LeO.refl _) (LeO.bind (aes_Keys.mono _ _) (fun t => ?_))))))
 unfold cbc_Open.g
 intro r h
 by_cases hc : t.2.isNone = true ∧ okK t.1 = true ∧ 17 ≤ k
 · rw [if_pos hc] at h
   rw [if_pos ⟨hc.1, hc.2.1, by omega⟩]
   exact cbc_Empty.mono _ _ r h
 · rw [if_neg hc] at h
   cases h
theorem cbc_Open.calls (k : Nat) (A0 : Option Addr) (c0 : Nat) (l0 : List Int) (A1 : Option Addr) (c1 : Nat) (l1 : List Int) (A2 : Option Addr) (c2 : Nat) (l2 : List Int) (r1 : List Int) (r2 : Option Int) (w : World)
 (hr0 : Kd.C (Kd.int .u8) w A0 l0.length l0) (hc0 : l0.length ≤ c0) (hr1 : Kd.C (Kd.int .u8) w A1 l1.length l1) (hc1 : l1.length ≤ c1) (hr2 : Kd.C (Kd.int .u8) w A2 l2.length l2) (hc2 : l2.length ≤ c2) (h : cbc_Open.f k l0 l1 l2 = some (r1, r2)) :
 Calls Try.prog 27 #[.slice A0 l0.length c0, .slice A1 l1.length c1, .slice A2 l2.length c2] w fun e w' => ∃ v0_ : Value, e = .returned (.tuple #[v0_, errW r2]) ∧ Kd.R (Kd.int .u8) 5 w' w.heap.size (fun _ => True) v0_ r1 ∧ Below w.heap.size w w' := by
 unfold cbc_Open.f at h
 have fin : ∀ (c : Int), some (([] : List Int), some c) = some (r1, r2) → Calls Try.prog 27 #[.slice A0 l0.length c0, .slice A1 l1.length c1, .slice A2 l2.length c2] w (fun e w' => e = .returned (.tuple #[.slice none 0 0, .iface 31 (.int .i64 c)]) ∧ Below w.heap.size w w') → Calls Try.prog 27 #[.slice A0 l0.length c0, .slice A1 l1.length c1, .slice A2 l2.length c2] w fun e w' => ∃ v0_ : Value, e = .returned (.tuple #[v0_, errW r2]) ∧ Kd.R (Kd.int .u8) 5 w' w.heap.size (fun _ => True) v0_ r1 ∧ Below w.heap.size w w' := by
  intro c he hC
  injection he with he
  injection he with e1 e2
  subst e1 e2
  exact hC.mono fun e w' hh => ⟨_, hh.1, Kd.R_nil _ _ _ _ _, hh.2⟩
 by_cases h0 : l0.length ≠ 16
 · rw [if_pos h0] at h
   exact fin 1 h (open_err1 A0 c0 l0 A1 c1 l1 A2 c2 l2 w h0)
 rw [if_neg h0] at h
 have h0' : l0.length = 16 := by omega
 by_cases h1 : l1.length ≠ 16
 · rw [if_pos h1] at h
   exact fin 1 h (by rw [h0']; exact open_err2 A0 c0 A1 c1 l1 A2 c2 l2 w h1)
 rw [if_neg h1] at h
 have h1' : l1.length = 16 := by omega
 by_cases h2 : l2.length = 0
 · rw [if_pos h2] at h
   exact fin 1 h (by rw [h0', h1', h2]; exact open_err3 A0 c0 A1 c1 A2 c2 w)
 rw [if_neg h2] at h
 by_cases h3 : l2.length % 16 ≠ 0
 · rw [if_pos h3] at h
   exact fin 1 h (by rw [h0', h1']; exact open_err4 A0 c0 A1 c1 A2 c2 _ w h2 h3)
 rw [if_neg h3] at h
 by_cases h4 : 65552 < l2.length
 · rw [if_pos h4] at h
   exact fin 4 h (by rw [h0', h1']; exact open_err5 A0 c0 A1 c1 A2 c2 _ w (by omega) h4)
 rw [if_neg h4] at h
 obtain ⟨⟨ks, e2⟩, hk, h⟩ := Option.bind_eq_some_iff.mp h
 unfold cbc_Open.g at h
 by_cases hc : (ks, e2).2.isNone = true ∧ okK (ks, e2).1 = true ∧ 17 ≤ k
 · rw [if_pos hc] at h
   obtain ⟨hn, ho, hk17⟩ := hc
   obtain rfl : e2 = none := by simpa using hn
   have hmm : l2.length = 16 * (l2.length / 16) := by omega
   obtain ⟨m, hm⟩ : ∃ m, m = l2.length / 16 := ⟨_, rfl⟩
   rw [← hm] at hmm h
   rw [h0'] at hr0 hc0 ⊢
   rw [h1'] at hr1 hc1 ⊢
   rw [hmm] at hr2 hc2 ⊢
   exact open_ok k A0 c0 l0 A1 c1 l1 A2 c2 l2 ks m r1 r2 w hr0 hc0 hr1 hc1 hr2 hc2 hk ho h (by omega) (by omega) hk17
 · rw [if_neg hc] at h
   cases h

end Go.Proofs.Ytpcdkfbngoagnaa.C

-- LEAN
