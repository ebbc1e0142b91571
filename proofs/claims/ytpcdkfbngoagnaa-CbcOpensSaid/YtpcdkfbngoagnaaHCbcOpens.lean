import Derived.Test.YtpcdkfbngoagnaaCx18
import Derived.Test.YtpcdkfbngoagnaaCx20
import Derived.Test.YtpcdkfbngoagnaaCx23
import Derived.Test.YtpcdkfbngoagnaaCx25
import Derived.Test.YtpcdkfbngoagnaaCx26
import Derived.Test.YtpcdkfbngoagnaaCx14
namespace Go.Proofs.Ytpcdkfbngoagnaa.C
open Go.RowKit Go.Proofs.YtpcdkfbngoagnaaW.PrintWords Go.Proofs.YtpcdkfbngoagnaaW.PrintLast Go.Proofs.YtpcdkfbngoagnaaW.PrintMore
set_option linter.unusedVariables false
set_option linter.unusedSimpArgs false

/-- The head of the law: the examples, the cut, the opening. -/
theorem opens_cut (l2 : List Int) (L : List Int) (hL : L = l2.take 320) (A2 : Option Addr) (c2 : Nat) (w : World) (hr2 : Kd.C (Kd.int .u8) w A2 l2.length l2) (hc2 : l2.length ≤ c2) (W : World) (hB : Below w.heap.size w W) :
    Calls Try.prog 24 #[.slice A2 l2.length c2, .int .i64 320] W fun e w' => ∃ A c, e = .returned (.slice A L.length c) ∧ L.length ≤ c ∧ Kd.C (Kd.int .u8) w' A L.length L ∧ Below W.heap.size W w' := by
  have hf : charterlaw04_cut.f l2 320 = some L := by
    unfold charterlaw04_cut.f
    by_cases h : (l2.length : Int) > 320
    · rw [if_pos h, if_pos (by omega), if_pos (by omega), hL]
      rfl
    · rw [if_neg h, hL, List.take_of_length_le (by omega)]
  refine (charterlaw04_cut.calls (fun k => k < W.heap.size) A2 c2 l2 320 L W (Kd.V_mk hc2 (Kd.C_F (Kd.heap_int .u8) (Kd.C_below hr2 hB))) hf).mono ?_
  rintro e w' ⟨v, rfl, hV, hb⟩
  obtain ⟨A, c, rfl⟩ := Kd.V_slice hV
  exact ⟨A, c, rfl, (Kd.V_reads' hV).2.1, (Kd.V_reads' hV).2.2, hb⟩
/-- .. where nothing can be opened. -/
theorem opens_bad (k : Nat) (A0 : Option Addr) (c0 : Nat) (l0 : List Int) (A1 : Option Addr) (c1 : Nat) (l1 : List Int) (A2 : Option Addr) (c2 : Nat) (l2 L : List Int) (w : World)
    (hr0 : Kd.C (Kd.int .u8) w A0 l0.length l0) (hc0 : l0.length ≤ c0) (hr1 : Kd.C (Kd.int .u8) w A1 l1.length l1) (hc1 : l1.length ≤ c1) (hr2 : Kd.C (Kd.int .u8) w A2 l2.length l2) (hc2 : l2.length ≤ c2)
    (hup : charterlaw04_up.f k = some true) (hL : L = l2.take 320) (hop : cbc_Open.f k l0 l1 L = some ([], some 1)) (hbad : l0.length ≠ 16 ∨ l1.length ≠ 16 ∨ L.length = 0 ∨ L.length % 16 ≠ 0) :
    Calls Try.prog 10 #[.slice A0 l0.length c0, .slice A1 l1.length c1, .slice A2 l2.length c2] w fun e w' => e = .returned (.bool true) ∧ Below w.heap.size w w' := by
  have hu28 := Try.underlying28
  have hu31 := Try.underlying31
  have heq28 := fun (W : World) (a b : Int) => Lib.run_eql_iface_int (P := Try.prog) W (t := 28) (tx := 31) (k := .i64) a b Try.underlying28 (by kernel_rfl) Try.underlying31
  have H0 := Aside0.mk (And.intro hr0 (And.intro hc0 (And.intro hr1 hc1)))
  have H2 := Aside0.mk (And.intro hr2 hc2)
  have HU := Aside0.mk hup
  have HL := Aside0.mk hL
  have HO := Aside0.mk hop
  have HBad := Aside0.mk hbad
  clear hr0 hc0 hr1 hc1 hr2 hc2 hup hL hop hbad
  go_enter Try.func10, Try.ntmps10
  go_wp2_with fail
  refine (charterlaw04_up.calls k true _ HU.out).mono ?_
  rintro e w1 ⟨rfl, hb1⟩
  have B1 := Aside0.mk hb1
  clear hb1
  go_wp2_with fail
  refine (opens_cut l2 L HL.out A2 c2 w H2.out.1 H2.out.2 w1 B1.out).mono ?_
  rintro e w2 ⟨AL, cL, rfl, hcL, hCL, hb2⟩
  have CL := Aside0.mk (And.intro hcL hCL)
  have B2 := Aside0.mk (below_step B1.out hb2)
  clear hcL hCL hb2 B1
  go_wp2_with fail
  refine (cbc_Open.calls k A0 c0 l0 A1 c1 l1 AL cL L [] (some 1) w2 (Kd.C_below H0.out.1 B2.out) H0.out.2.1 (Kd.C_below H0.out.2.2.1 B2.out) H0.out.2.2.2 CL.out.2 CL.out.1 HO.out).mono ?_
  rintro e w3 ⟨v3, rfl, hR3, hb3⟩
  have B3 := Aside0.mk (below_step B2.out hb3)
  obtain ⟨A3, c3, rfl⟩ := Kd.R_slice hR3
  clear hb3 hR3 B2
  simp only [errW_some, List.length_nil]
  have hbb : (((l0.length : Int) != 16) = true) ∨ (((l0.length : Int) != 16) = false ∧ ((l1.length : Int) != 16) = true) ∨ (((l0.length : Int) != 16) = false ∧ ((l1.length : Int) != 16) = false ∧ ((L.length : Int) == 0) = true) ∨ (((l0.length : Int) != 16) = false ∧ ((l1.length : Int) != 16) = false ∧ ((L.length : Int) == 0) = false ∧ ((L.length : Int) % 16 != 0) = true) := by
    have := HBad.out
    simp only [bne_iff_ne, ne_eq, bne_eq_false_iff_eq, beq_iff_eq, beq_eq_false_iff_ne]
    omega
  rcases hbb with h | ⟨h, h'⟩ | ⟨h, h', h''⟩ | ⟨h, h', h'', h3⟩
  all_goals (
    go_wp2
    go_ret
    exact ⟨rfl, B3.out⟩)
set_option maxHeartbeats 4000000 in
set_option maxRecDepth 100000 in
/-- .. where a text is told: sealed, it is the code. -/
theorem opens_ok (k : Nat) (A0 : Option Addr) (c0 : Nat) (l0 : List Int) (A1 : Option Addr) (c1 : Nat) (l1 : List Int) (A2 : Option Addr) (c2 : Nat) (l2 L t tab : List Int) (w : World)
    (hr0 : Kd.C (Kd.int .u8) w A0 l0.length l0) (hc0 : l0.length ≤ c0) (hr1 : Kd.C (Kd.int .u8) w A1 l1.length l1) (hc1 : l1.length ≤ c1) (hr2 : Kd.C (Kd.int .u8) w A2 l2.length l2) (hc2 : l2.length ≤ c2)
    (hup : charterlaw04_up.f k = some true) (hL : L = l2.take 320) (hop : cbc_Open.f k l0 l1 L = some (t, none)) (h0 : l0.length = 16) (h1 : l1.length = 16) (h2 : L.length ≠ 0) (h3 : L.length % 16 = 0)
    (htab : charterref03_Table.f k = some tab) (hse : charterref04_Seal.f k tab l0 l1 t = some L) :
    Calls Try.prog 10 #[.slice A0 l0.length c0, .slice A1 l1.length c1, .slice A2 l2.length c2] w fun e w' => e = .returned (.bool true) ∧ Below w.heap.size w w' := by
  have g0 : ((l0.length : Int) != 16) = false := by simp [h0]
  have g1 : ((l1.length : Int) != 16) = false := by simp [h1]
  have g2 : ((L.length : Int) == 0) = false := by simpa using h2
  have g3 : ((L.length : Int) % 16 != 0) = false := by simp only [bne_eq_false_iff_eq]; omega
  have HT := Aside0.mk (And.intro htab hse)
  clear h0 h1 h2 h3 htab hse
  have hu28 := Try.underlying28
  have hu31 := Try.underlying31
  have heq28 := fun (W : World) (a b : Int) => Lib.run_eql_iface_int (P := Try.prog) W (t := 28) (tx := 31) (k := .i64) a b Try.underlying28 (by kernel_rfl) Try.underlying31
  have H0 := Aside0.mk (And.intro hr0 (And.intro hc0 (And.intro hr1 hc1)))
  have H2 := Aside0.mk (And.intro hr2 hc2)
  have HU := Aside0.mk hup
  have HL := Aside0.mk hL
  have HO := Aside0.mk hop
  clear hr0 hc0 hr1 hc1 hr2 hc2 hup hL hop
  go_enter Try.func10, Try.ntmps10
  go_wp2_with fail
  refine (charterlaw04_up.calls k true _ HU.out).mono ?_
  rintro e w1 ⟨rfl, hb1⟩
  have B1 := Aside0.mk hb1
  clear hb1
  go_wp2_with fail
  refine (opens_cut l2 L HL.out A2 c2 w H2.out.1 H2.out.2 w1 B1.out).mono ?_
  rintro e w2 ⟨AL, cL, rfl, hcL, hCL, hb2⟩
  have CL := Aside0.mk (And.intro hcL hCL)
  have B2 := Aside0.mk (below_step B1.out hb2)
  clear hcL hCL hb2 B1
  go_wp2_with fail
  refine (cbc_Open.calls k A0 c0 l0 A1 c1 l1 AL cL L t none w2 (Kd.C_below H0.out.1 B2.out) H0.out.2.1 (Kd.C_below H0.out.2.2.1 B2.out) H0.out.2.2.2 CL.out.2 CL.out.1 HO.out).mono ?_
  rintro e w3 ⟨v3, rfl, hR3, hb3⟩
  have B3 := Aside0.mk (below_step B2.out hb3)
  have CL3 := Aside0.mk (Kd.C_below CL.out.2 hb3)
  obtain ⟨A3, c3, rfl⟩ := Kd.R_slice hR3
  have CT := Aside0.mk (Kd.R_reads' hR3)
  clear hb3 hR3 B2
  simp only [errW_none]
  go_wp2_with fail
  have hstr := fun (W : World) (hb : Below w3.heap.size w3 W) => Kd.C_string (P := Try.prog) (c := cL) Try.underlying25 Try.underlying5 Try.underlying9 (Kd.C_below CL3.out hb)
  have HSTR := Aside0.mk hstr
  clear hstr
  have hs1 := HSTR.out w3.drew ((Below.refl _ w3).drew)
  go_region_with (first
    | (go_at_call 19; refine (charterref03_Table.calls k tab _ HT.out.1).mono ?_; rintro e w4 ⟨v4, rfl, hR4, hb4⟩; obtain ⟨A4, c4, rfl⟩ := Kd.R_slice hR4; have C4 := Aside0.mk (Kd.R_reads' hR4); have D4 := Aside0.mk ((Below.refl w3.heap.size w3).drew.trans hb4); have hs2 := HSTR.out w4 D4.out; clear hR4 hb4)
    | (go_at_call 26; refine (charterref04_Seal.calls k A4 c4 tab A0 c0 l0 (fun k_ => k_ < w4.heap.size) A1 c1 l1 A3 c3 t L w4 C4.out.2.2 C4.out.2.1 (Kd.C_below (Kd.C_below H0.out.1 B3.out) D4.out) H0.out.2.1 (Kd.V_mk H0.out.2.2.2 (Kd.C_F (Kd.heap_int .u8) (Kd.C_below (Kd.C_below H0.out.2.2.1 B3.out) D4.out))) (Kd.C_below CT.out.2.2 D4.out) CT.out.2.1 HT.out.2).mono ?_; rintro e w5 ⟨v5, rfl, hR5, hb5⟩; obtain ⟨A5, c5, rfl⟩ := Kd.R_slice hR5; have hs3 := HSTR.out w5 (D4.out.trans (hb5.mono D4.out.size)); have hs4 := Kd.C_string (P := Try.prog) (c := c5) Try.underlying25 Try.underlying5 Try.underlying9 (Kd.R_reads' hR5).2.2; have B5 := Aside0.mk (below_step (below_step B3.out D4.out) hb5); clear hR5 hb5))
  all_goals (
    go_wp2
    go_ret
    exact ⟨by first | rfl | simp, B5.out⟩)

theorem xor_step (B l : List Int) (i : Nat) (hi : i < 16) (hB : B.length = 16) : (xorS B l i).set i (Go.bits .xor .u8 ((xorS B l i).getD i 0) (l.getD i 0)) = xorS B l (i + 1) := by
  rw [xorS_get i (by omega)]
  exact xorS_set i (by omega)
set_option maxHeartbeats 4000000 in
set_option maxRecDepth 100000 in
/-- .. where the blocks that are taken back aren't filled. -/
theorem opens_err (k : Nat) (A0 : Option Addr) (c0 : Nat) (l0 : List Int) (A1 : Option Addr) (c1 : Nat) (l1 : List Int) (A2 : Option Addr) (c2 : Nat) (l2 L La B r : List Int) (ks : List (List Int)) (n : Nat) (w : World)
    (hr0 : Kd.C (Kd.int .u8) w A0 l0.length l0) (hc0 : l0.length ≤ c0) (hr1 : Kd.C (Kd.int .u8) w A1 l1.length l1) (hc1 : l1.length ≤ c1) (hr2 : Kd.C (Kd.int .u8) w A2 l2.length l2) (hc2 : l2.length ≤ c2)
    (hup : charterlaw04_up.f k = some true) (hL : L = l2.take 320) (hop : cbc_Open.f k l0 l1 L = some ([], some 7)) (h0 : l0.length = 16) (h1 : l1.length = 16) (hn : L.length = 16 * n + 16) (hn2 : n ≤ 20)
    (hk : aes_Keys.f k l0 = some (ks, none)) (ho : okK ks = true) (hla : La = if n = 0 then l1 else blkAt L (n - 1)) (hB : B = decL ks (blkAt L n)) (hem : charterref04_Empty.f k (xorS B La 16) = some (r, false)) :
    Calls Try.prog 10 #[.slice A0 l0.length c0, .slice A1 l1.length c1, .slice A2 l2.length c2] w fun e w' => e = .returned (.bool true) ∧ Below w.heap.size w w' := by
  have HK := Aside0.mk (And.intro hk ho)
  have HLA := Aside0.mk hla
  have HBB := Aside0.mk hB
  have HEM := Aside0.mk hem
  have HN := Aside0.mk hn
  have H16 := Aside0.mk (And.intro h0 h1)
  have hu28 := Try.underlying28
  have hu31 := Try.underlying31
  have heq28 := fun (W : World) (a b : Int) => Lib.run_eql_iface_int (P := Try.prog) W (t := 28) (tx := 31) (k := .i64) a b Try.underlying28 (by kernel_rfl) Try.underlying31
  have hopen := fun (W : World) (hb : Below w.heap.size w W) (AL : Option Addr) (cL : Nat) (hC : Kd.C (Kd.int .u8) W AL L.length L) (hc : L.length ≤ cL) => cbc_Open.calls k A0 c0 l0 A1 c1 l1 AL cL L [] (some 7) W (Kd.C_below hr0 hb) hc0 (Kd.C_below hr1 hb) hc1 hC hc hop
  rw [h0] at hr0 hc0
  rw [h1] at hr1 hc1
  rw [h0, h1] at hopen ⊢
  have hcut := opens_cut l2 L hL A2 c2 w hr2 hc2
  rw [hn] at hcut hopen
  have hlt : 16 * n < 16 * n + 16 := by omega
  have hne : (((16 * n + 16 : Nat) : Int) == 0) = false := by simp only [beq_eq_false_iff_ne, ne_eq]; omega
  have hmd : (((16 * n + 16 : Nat) : Int) % 16 != 0) = false := by simp only [bne_eq_false_iff_eq]; omega
  have H0 := Aside0.mk (And.intro hr0 (And.intro hc0 (And.intro hr1 hc1)))
  have HU := Aside0.mk hup
  have HO := Aside0.mk hopen
  have HCU := Aside0.mk hcut
  clear h0 h1 hn hk ho hla hB hem hr0 hc0 hr1 hc1 hr2 hc2 hup hL hop hopen hcut
  go_enter Try.func10, Try.ntmps10
  go_wp2_with fail
  refine (charterlaw04_up.calls k true _ HU.out).mono ?_
  rintro e w1 ⟨rfl, hb1⟩
  have B1 := Aside0.mk hb1
  clear hb1
  go_wp2_with fail
  refine (HCU.out w1 B1.out).mono ?_
  rintro e w2 ⟨AL, cL, rfl, hcL, hCL, hb2⟩
  obtain ⟨ad, rfl⟩ : ∃ a, AL = some a := by obtain ⟨a, e, _⟩ := hCL.2.2 (by omega); exact ⟨a, e⟩
  have CL := Aside0.mk (And.intro hcL hCL)
  have B2 := Aside0.mk (below_step B1.out hb2)
  clear hCL hb2 B1 HCU
  go_wp2_with fail
  refine (HO.out w2 B2.out (some ad) cL CL.out.2 CL.out.1).mono ?_
  rintro e w3 ⟨v3, rfl, hR3, hb3⟩
  have B3 := Aside0.mk (below_step B2.out hb3)
  have CL3 := Aside0.mk (show Kd.C (Kd.int .u8) w3 (some ad) (16 * n + 16) L from Kd.C_below CL.out.2 hb3)
  obtain ⟨A3, c3, rfl⟩ := Kd.R_slice hR3
  clear hb3 hR3 B2 HO
  simp only [errW_some, List.length_nil]
  have hw16 : wrap64 (16 * (n : Int)) = ((16 * n : Nat) : Int) := by unfold wrap64; omega
  have hlast : ∃ la cl, 16 ≤ cl ∧ Kd.C (Kd.int .u8) w3 (some la) 16 La ∧ ((n = 0 ∧ A1 = some la ∧ c1 = cl) ∨ (∃ p, n = p + 1 ∧ ad.add (16 * p) = la ∧ cL - 16 * p = cl)) := by
    by_cases h0 : n = 0
    · obtain ⟨a1, e1⟩ : ∃ a, A1 = some a := by obtain ⟨a, e, _⟩ := H0.out.2.2.1.2.2 (by omega); exact ⟨a, e⟩
      refine ⟨a1, c1, H0.out.2.2.2, ?_, .inl ⟨h0, e1, rfl⟩⟩
      rw [HLA.out, if_pos h0, ← e1]
      exact Kd.C_below H0.out.2.2.1 B3.out
    · obtain ⟨p, hp⟩ : ∃ p, n = p + 1 := ⟨n - 1, by omega⟩
      refine ⟨ad.add (16 * p), cL - 16 * p, by omega, ?_, .inr ⟨p, hp, rfl, rfl⟩⟩
      rw [HLA.out, if_neg h0, show n - 1 = p from by omega]
      exact C_blk CL3.out (by omega)
  have HCB : ∃ lb cb, 16 ≤ cb ∧ Kd.C (Kd.int .u8) w3 (some lb) 16 (blkAt L n) ∧ ad.add (16 * n) = lb ∧ cL - 16 * n = cb := by
    refine ⟨ad.add (16 * n), cL - 16 * n, by omega, ?_, rfl, rfl⟩
    exact C_blk CL3.out (by omega)
  obtain ⟨la, cl, hcl, hCla, hor⟩ := hlast
  obtain ⟨lb, cb, hcb, hClb, hlb, hcb2⟩ := HCB
  have HLast := Aside0.mk (And.intro hcl (And.intro hCla (And.intro hcb hClb)))
  clear hcl hCla hcb hClb
  have HLB := Aside0.mk (And.intro hlb hcb2)
  clear hlb hcb2
  rcases hor with ⟨h0, rfl, rfl⟩ | ⟨p, hp, hla, hcl⟩
  case' inl =>
    have hgt : ¬ 16 < 16 * (n : Int) + 16 := by omega
    have hgt2 : (n : Int) = 0 := by omega
    go_wp2_with fail
    rw [show ad = lb from by rw [← HLB.out.1, h0]; simp [Addr.add], show cL = cb from by rw [← HLB.out.2, h0]; simp]
    clear hgt hgt2 hw16 h0 hlt hne hmd hcL
  case' inr =>
    have hgt : 16 < 16 * (n : Int) + 16 := by omega
    have hgt2 : (0 : Int) < n := by omega
    have hgt3 : 0 < n := by omega
    have hw32 : wrap64 (16 * (n : Int) + 16 - 32) = ((16 * p : Nat) : Int) := by unfold wrap64; omega
    have hpn : 16 * p < 16 * n := by omega
    have hpn2 : 16 * n - 16 * p = 16 := by omega
    have hpn3 : 16 * n + 16 - 32 = 16 * p := by omega
    clear hp
    go_wp2_with fail
    rw [hpn3, hpn2, hla, hcl, HLB.out.1, HLB.out.2]
    clear hgt hgt2 hgt3 hw32 hpn hpn2 hpn3 hla hcl hw16 hlt hne hmd hcL
  all_goals (
    have hlb16 : (blkAt L n).length = 16 := HLast.out.2.2.2.1
    have hl16 : l0.length = 16 := H16.out.1
    have hD := decrypt_st k A0 c0 l0 (some lb) cb (blkAt L n) ks w3 (by rw [hl16]; exact Kd.C_below H0.out.1 B3.out) (by rw [hl16]; exact H0.out.2.1) (by rw [hlb16]; exact HLast.out.2.2.2) (by rw [hlb16]; exact HLast.out.2.2.1) HK.out.1 hlb16 HK.out.2
    rw [hl16, hlb16, ← HBB.out] at hD
    refine hD.mono ?_
    clear hD
    rintro e w4 ⟨g, rfl, hg, hS, hb4⟩
    have hLa4 := Kd.C_below HLast.out.2.1 hb4
    have hlag : la.block ≠ g := by
      have := C_lt HLast.out.2.1 (by omega)
      omega
    have HW4 := Aside0.mk (And.intro hg (And.intro hS (And.intro hLa4 (And.intro hlag (below_step B3.out hb4)))))
    have hBl := Aside0.mk (show B.length = 16 by rw [HBB.out]; rw [decL, xorS_length]; exact decR_length ks _ hlb16 10)
    clear hg hS hLa4 hlag hb4 hlb16 hl16
    go_wp2_with fail
    go_loopw [13] (fun i wr => ∃ j : Nat, j ≤ 16 ∧ i = .int .i64 j ∧ Aside0 (StAt wr g (xorS B La j)) ∧ Aside0 (Kd.C (Kd.int .u8) wr (some la) 16 La) ∧ Aside0 (Below w.heap.size w wr)) (fun i _ => 16 - (intOf i).toNat)
    case atStart => exact ⟨0, by omega, rfl, ⟨by rw [xorS_zero]; exact HW4.out.2.1⟩, ⟨HW4.out.2.2.1⟩, ⟨HW4.out.2.2.2.2⟩⟩
    case round =>
      obtain ⟨j, hj, rfl, HSr, HLr, HBr⟩ := hrel
      by_cases hlt : j < 16
      · have hc1 := HSr.out.cell j hlt
        have hc2 : wr.cell? (la.add j) = some (.int .u8 (La.getD j 0)) := by
          obtain ⟨a2, e2, h2⟩ := Kd.at_int HLr.out (j : Int) (by omega) (by omega)
          injection e2 with e2
          subst e2
          simpa [rd] using h2
        have hf1 := blk_frozen HSr.out j
        have hlt' : (j : Int) < 16 := by omega
        obtain ⟨x, hx⟩ : ∃ x, x = (xorS B La j).getD j 0 := ⟨_, rfl⟩
        obtain ⟨y, hy⟩ : ∃ y, y = La.getD j 0 := ⟨_, rfl⟩
        rw [← hx] at hc1
        rw [← hy] at hc2
        have HXY := Aside0.mk (And.intro hx hy)
        clear hx hy
        go_wp2
        go_region
        go_wp2
        go_roundw
        case rel =>
          refine ⟨j + 1, by omega, by go_num, ⟨?_⟩, ⟨?_⟩, ⟨?_⟩⟩
          · have h2 := HSr.out.set j (Go.bits .xor .u8 x y) (by rw [xorS_length, hBl.out]; exact hlt)
            rw [HXY.out.1, HXY.out.2, xor_step B La j hlt hBl.out] at h2
            rw [HXY.out.1, HXY.out.2]
            exact blk_drew h2
          · refine C_block (Kd.C_drew HLr.out) (Below.heap_setCell _ _ _ _ ?_)
            have := HW4.out.2.2.2.1
            simpa using this
          · exact (HBr.out.drew).setCell (by simpa using Nat.le_trans B3.out.size HW4.out.1) _
        case measure => simp [intOf]; omega
      · obtain rfl : j = 16 := by omega
        have hxl := Aside0.mk (xorS_length B La 16)
        go_wp2_with fail
        have hE := charterref04_Empty.calls k (some ⟨g, 0, none⟩) 16 (xorS B La 16) r false wr (StAt.C HSr.out (by rw [hxl.out, hBl.out])) (by rw [hxl.out, hBl.out]; exact Nat.le_refl _) HEM.out
        rw [hxl.out, hBl.out] at hE
        refine hE.mono ?_
        clear hE
        rintro e w5 ⟨v5, rfl, hR5, hb5⟩
        obtain ⟨A5, c5, rfl⟩ := Kd.R_slice hR5
        have HB5 := Aside0.mk (below_step HBr.out hb5)
        clear hR5 hb5
        go_wp2
        go_ret
        exact ⟨rfl, HB5.out⟩)
end Go.Proofs.Ytpcdkfbngoagnaa.C
