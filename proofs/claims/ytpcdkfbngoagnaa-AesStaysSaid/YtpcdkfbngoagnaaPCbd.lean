import Derived.Test.YtpcdkfbngoagnaaPCbc
namespace Go.Proofs.Ytpcdkfbngoagnaa.Pure
set_option linter.unusedVariables false
set_option linter.unusedSimpArgs false
open Go.RowKit Go.Proofs.Ytpcdkfbngoagnaa.C Go.Proofs.YtpcdkfbngoagnaaW.PrintWords Go.Proofs.YtpcdkfbngoagnaaW.PrintLast Go.Proofs.YtpcdkfbngoagnaaW.PrintMore

/-! ### Blocks -/
def Bytes (l : List Int) : Prop := ∀ x ∈ l, 0 ≤ x ∧ x < 256
theorem blkTo_cons (b : List Int) (hb : b.length = 16) (l : List Int) (n : Nat) : blkTo (b ++ l) (n + 1) = b :: blkTo l n := by
  simp only [blkTo, List.range_succ_eq_map, List.map_cons, List.map_map]
  congr 1
  · simp [blkAt, hb]
  · apply List.map_congr_left
    intro i _
    simp only [blkAt, Function.comp_apply, Nat.succ_eq_add_one]
    rw [show 16 * (i + 1) = b.length + 16 * i from by omega, ← List.drop_drop, List.drop_left]
theorem blkTo_flatten : ∀ (bs : List (List Int)), (∀ b ∈ bs, b.length = 16) → blkTo bs.flatten bs.length = bs
  | [], _ => rfl
  | b :: bs, h => by
    rw [List.flatten_cons, List.length_cons, blkTo_cons b (h b (by simp)), blkTo_flatten bs (fun x hx => h x (by simp [hx]))]
theorem flatten_blkTo : ∀ (n : Nat) (l : List Int), l.length = 16 * n → (blkTo l n).flatten = l
  | 0, l, h => by
    have : l = [] := List.eq_nil_of_length_eq_zero (by omega)
    subst this
    rfl
  | n + 1, l, h => by
    have h1 : l = l.take 16 ++ l.drop 16 := (List.take_append_drop 16 l).symm
    have hl : (l.take 16).length = 16 := by simp; omega
    have h2 := flatten_blkTo n (l.drop 16) (by simp; omega)
    rw [show blkTo l (n + 1) = blkTo (l.take 16 ++ l.drop 16) (n + 1) from by rw [← h1], blkTo_cons _ hl, List.flatten_cons, h2, ← h1]
theorem blkTo_by (l : List Int) (hl : Bytes l) (n : Nat) (h : l.length = 16 * n) : ∀ b ∈ blkTo l n, By16 b := by
  intro b hb
  obtain ⟨i, hi, rfl⟩ := List.mem_map.1 hb
  have hi := List.mem_range.1 hi
  exact ⟨blkAt_len (by omega), fun x hx => hl x (List.mem_of_mem_drop (List.mem_of_mem_take hx))⟩
theorem blkTo_length (l : List Int) (n : Nat) : (blkTo l n).length = n := by simp [blkTo]
def sealC (ks : List (List Int)) : List Int → List (List Int) → List (List Int)
  | _, [] => []
  | last, b :: bs => encR ks (xorS b last 16) 10 :: sealC ks (encR ks (xorS b last 16) 10) bs
def openC (ks : List (List Int)) : List Int → List (List Int) → List (List Int)
  | _, [] => []
  | last, c :: cs => xorS (decL ks c) last 16 :: openC ks c cs
theorem sealC_eq (ks : List (List Int)) : ∀ (bs : List (List Int)) (out last : List Int), (bs.foldl (sealS ks) (out, last)).1 = out ++ (sealC ks last bs).flatten
  | [], out, last => by simp [sealC]
  | b :: bs, out, last => by
    rw [List.foldl_cons, show sealS ks (out, last) b = (out ++ encR ks (xorS b last 16) 10, encR ks (xorS b last 16) 10) from rfl, sealC_eq ks bs]
    simp [sealC]
theorem openC_eq (ks : List (List Int)) : ∀ (bs : List (List Int)) (out last : List Int), (bs.foldl (openS ks) (out, last)).1 = out ++ (openC ks last bs).flatten
  | [], out, last => by simp [openC]
  | b :: bs, out, last => by
    rw [List.foldl_cons, show openS ks (out, last) b = (out ++ xorS (decL ks b) last 16, b) from rfl, openC_eq ks bs]
    simp [openC]
theorem sealC_length (ks : List (List Int)) : ∀ (bs : List (List Int)) (last : List Int), (sealC ks last bs).length = bs.length
  | [], _ => rfl
  | b :: bs, last => by simp [sealC, sealC_length ks bs]
theorem openC_length (ks : List (List Int)) : ∀ (bs : List (List Int)) (last : List Int), (openC ks last bs).length = bs.length
  | [], _ => rfl
  | b :: bs, last => by simp [openC, openC_length ks bs]
theorem sealC_by (ks : List (List Int)) : ∀ (bs : List (List Int)) (last : List Int), (∀ b ∈ bs, b.length = 16) → ∀ c ∈ sealC ks last bs, By16 c
  | [], _, _, c, hc => by simp [sealC] at hc
  | b :: bs, last, h, c, hc => by
    have hb := h b (by simp)
    rcases List.mem_cons.1 (by simpa [sealC] using hc) with rfl | hc
    · exact encR_by ks _ (add_by _ _ hb) 10
    · exact sealC_by ks bs _ (fun x hx => h x (by simp [hx])) c hc
theorem openC_by (ks : List (List Int)) : ∀ (bs : List (List Int)) (last : List Int), (∀ b ∈ bs, By16 b) → ∀ c ∈ openC ks last bs, By16 c
  | [], _, _, c, hc => by simp [openC] at hc
  | b :: bs, last, h, c, hc => by
    have hb := h b (by simp)
    rcases List.mem_cons.1 (by simpa [openC] using hc) with rfl | hc
    · exact add_by _ _ (decL_by ks b hb).1
    · exact openC_by ks bs _ (fun x hx => h x (by simp [hx])) c hc
theorem open_seal (ks : List (List Int)) (hk : ∀ i, i < 11 → By16 (ks.getD i [])) : ∀ (bs : List (List Int)) (last : List Int), By16 last → (∀ b ∈ bs, By16 b) → openC ks last (sealC ks last bs) = bs
  | [], _, _, _ => rfl
  | b :: bs, last, hl, h => by
    have hb := h b (by simp)
    rw [sealC, openC, dec_enc ks _ (add_by _ _ hb.1) hk, AA b last hb hl, open_seal ks hk bs _ (encR_by ks _ (add_by _ _ hb.1) 10) (fun x hx => h x (by simp [hx]))]
theorem seal_open (ks : List (List Int)) (hk : ∀ i, i < 11 → By16 (ks.getD i [])) : ∀ (bs : List (List Int)) (last : List Int), By16 last → (∀ b ∈ bs, By16 b) → sealC ks last (openC ks last bs) = bs
  | [], _, _, _ => rfl
  | b :: bs, last, hl, h => by
    have hb := h b (by simp)
    rw [openC, sealC, AA _ last (decL_by ks b hb) hl, enc_dec ks b hb hk, seal_open ks hk bs b hb (fun x hx => h x (by simp [hx]))]
theorem flatten_len : ∀ (bs : List (List Int)), (∀ b ∈ bs, b.length = 16) → bs.flatten.length = 16 * bs.length
  | [], _ => rfl
  | b :: bs, h => by
    rw [List.flatten_cons, List.length_append, h b (by simp), flatten_len bs (fun x hx => h x (by simp [hx])), List.length_cons]
    omega
theorem flatten_bytes (bs : List (List Int)) (h : ∀ b ∈ bs, By16 b) : Bytes bs.flatten := by
  intro x hx
  obtain ⟨b, hb, hx⟩ := List.mem_flatten.1 hx
  exact (h b hb).2 x hx
/-- What is sealed is opened. -/
theorem openF_sealF (ks : List (List Int)) (hk : ∀ i, i < 11 → By16 (ks.getD i [])) (last l : List Int) (hl : By16 last) (hb : Bytes l) (n : Nat) (hn : l.length = 16 * n) : (openF ks last (blkTo (sealF ks last (blkTo l n)).1 n)).1 = l := by
  have hby := blkTo_by l hb n hn
  have h1 := sealC_eq ks (blkTo l n) [] last
  have h2 := sealC_length ks (blkTo l n) last
  have h3 := blkTo_flatten (sealC ks last (blkTo l n)) (fun c hc => (sealC_by ks _ last (fun b hb' => (hby b hb').1) c hc).1)
  rw [h2, blkTo_length] at h3
  rw [sealF, h1, List.nil_append, h3, openF, openC_eq, open_seal ks hk _ last hl hby, List.nil_append, flatten_blkTo n l hn]
theorem sealF_openF (ks : List (List Int)) (hk : ∀ i, i < 11 → By16 (ks.getD i [])) (last l : List Int) (hl : By16 last) (hb : Bytes l) (n : Nat) (hn : l.length = 16 * n) : (sealF ks last (blkTo (openF ks last (blkTo l n)).1 n)).1 = l := by
  have hby := blkTo_by l hb n hn
  have h1 := openC_eq ks (blkTo l n) [] last
  have h2 := openC_length ks (blkTo l n) last
  have h3 := blkTo_flatten (openC ks last (blkTo l n)) (fun c hc => (openC_by ks _ last hby c hc).1)
  rw [h2, blkTo_length] at h3
  rw [openF, h1, List.nil_append, h3, sealF, sealC_eq, seal_open ks hk _ last hl hby, List.nil_append, flatten_blkTo n l hn]
theorem openF_out (ks : List (List Int)) (last l : List Int) (hb : Bytes l) (n : Nat) (hn : l.length = 16 * n) : (openF ks last (blkTo l n)).1.length = 16 * n ∧ Bytes (openF ks last (blkTo l n)).1 := by
  have hby := blkTo_by l hb n hn
  have ho := openC_by ks _ last hby
  rw [openF, openC_eq, List.nil_append]
  refine ⟨?_, flatten_bytes _ ho⟩
  rw [flatten_len _ (fun b hb' => (ho b hb').1), openC_length, blkTo_length]
theorem sealF_out (ks : List (List Int)) (last l : List Int) (n : Nat) (hn : l.length = 16 * n) : (sealF ks last (blkTo l n)).1.length = 16 * n ∧ Bytes (sealF ks last (blkTo l n)).1 := by
  have hby : ∀ b ∈ blkTo l n, b.length = 16 := by
    intro b hb
    obtain ⟨i, hi, rfl⟩ := List.mem_map.1 hb
    have hi := List.mem_range.1 hi
    exact blkAt_len (by omega)
  have ho := sealC_by ks _ last hby
  rw [sealF, sealC_eq, List.nil_append]
  refine ⟨?_, flatten_bytes _ ho⟩
  rw [flatten_len _ (fun b hb' => (ho b hb').1), sealC_length, blkTo_length]

/-! ### A text emptied -/
def emptyL (b : List Int) : List Int × Option Int :=
  if b.length % 16 = 0 ∧ b.length ≠ 0 ∧ 1 ≤ rd b ((b.length - 1 : Nat) : Int) ∧ rd b ((b.length - 1 : Nat) : Int) ≤ 16 ∧ ∀ x ∈ b.drop (b.length - (rd b ((b.length - 1 : Nat) : Int)).toNat), x = rd b ((b.length - 1 : Nat) : Int) then (b.take (b.length - (rd b ((b.length - 1 : Nat) : Int)).toNat), none) else ([], some 7)
theorem empty_go (n : Int) (x5 t : List Int) (ht : Bytes t) (h5 : x5.length < 140737488355328) (h16 : t.length ≤ 1000) : ∀ (d i m : Nat), i + d = t.length →
    cbc_Empty.l0 (m + d + 1) n x5 t t.length i = some (if ∀ x ∈ t.drop i, x = n then (x5, none) else ([], some 7)) := by
  intro d
  induction d with
  | zero =>
    intro i m h
    rw [cbc_Empty.l0, if_neg (by omega), List.drop_of_length_le (by omega), if_pos (by simp)]
    unfold slices_Clone_byte_byte.f
    rw [if_pos h5]
    rfl
  | succ d ih =>
    intro i m h
    have hi : i < t.length := by omega
    have hrd : rd t i = t[i] := by simp [rd, List.getD_eq_getElem?_getD, List.getElem?_eq_getElem hi]
    have hb := ht t[i] (List.getElem_mem hi)
    have hw : wrap64 (rd t i) = t[i] := by rw [hrd]; unfold wrap64; omega
    rw [show m + (d + 1) + 1 = (m + d + 1) + 1 from by omega, cbc_Empty.l0, if_pos (by omega), if_pos (by omega), if_pos (by omega), hw, wrapN i (by omega), ih (i + 1) m (by omega), List.drop_eq_getElem_cons hi]
    by_cases hn : t[i] = n
    · rw [if_pos hn]
      simp [hn]
    · rw [if_neg hn, if_neg (by intro hh; exact hn (hh _ (by first | exact List.mem_cons_self | (rw [List.drop_eq_getElem_cons hi]; exact List.mem_cons_self))))]
theorem empty_ok (m : Nat) (b : List Int) (hb : Bytes b) (hl : b.length < 140737488355000) : cbc_Empty.f (m + 20) b = some (emptyL b) := by
  obtain ⟨M, hM⟩ : ∃ M, M = m + 18 := ⟨_, rfl⟩
  rw [show m + 20 = M + 1 + 1 from by omega]
  unfold cbc_Empty.f emptyL
  by_cases h0 : b.length = 0
  · rw [if_pos (by omega), if_neg (by omega), cbc_Empty.j0, if_pos rfl]
  rw [if_neg (by omega)]
  by_cases h1 : b.length % 16 = 0
  · rw [show (((b.length : Int) % 16) != 0) = false from by simp only [bne_eq_false_iff_eq]; omega, cbc_Empty.j0, if_neg (by decide)]
    have hw : wrap64 ((b.length : Int) - 1) = ((b.length - 1 : Nat) : Int) := by unfold wrap64; omega
    rw [hw, if_pos (by omega), if_pos (by omega)]
    have hi : b.length - 1 < b.length := by omega
    have hrd : rd b ((b.length - 1 : Nat) : Int) = b[b.length - 1] := by simp [rd, List.getD_eq_getElem?_getD, List.getElem?_eq_getElem hi]
    have hby := hb b[b.length - 1] (List.getElem_mem hi)
    rw [← hrd] at hby
    obtain ⟨n, hn⟩ : ∃ n, n = rd b ((b.length - 1 : Nat) : Int) := ⟨_, rfl⟩
    rw [← hn] at hby ⊢
    clear hrd
    have hw2 : wrap64 n = n := by unfold wrap64; omega
    rw [hw2]
    by_cases hlo : n < 1
    · rw [if_pos hlo, if_neg (by omega), cbc_Empty.j1, if_pos rfl]
    rw [if_neg hlo]
    by_cases hhi : n > 16
    · rw [decide_eq_true hhi, if_neg (by omega), cbc_Empty.j1, if_pos rfl]
    rw [decide_eq_false hhi, cbc_Empty.j1, if_neg (by decide)]
    obtain ⟨N, rfl⟩ : ∃ N : Nat, n = N := ⟨n.toNat, by omega⟩
    have hw3 : wrap64 ((b.length : Int) - (N : Int)) = ((b.length - N : Nat) : Int) := by unfold wrap64; omega
    have htk : (b.take (b.length - N)).length = b.length - N := by simp
    rw [hw3]
    simp only [Int.toNat_natCast]
    rw [htk, if_pos (by omega), if_pos (by omega), if_pos (by omega), if_pos (by omega)]
    have htl : (b.drop (b.length - N)).length = N := by simp; omega
    have hg := empty_go (N : Int) (b.take (b.length - N)) (b.drop (b.length - N)) (fun x hx => hb x (List.mem_of_mem_drop hx)) (by simp; omega) (by omega) (b.drop (b.length - N)).length 0 (M - N - 1) (by omega)
    rw [htl, show M - N - 1 + N + 1 = M from by omega, List.drop_zero, show (((0 : Nat) : Int)) = 0 from rfl] at hg
    rw [htl, hg]
    by_cases hall : ∀ x ∈ b.drop (b.length - N), x = (N : Int)
    · rw [if_pos hall, if_pos ⟨h1, h0, by omega, by omega, hall⟩]
    · rw [if_neg hall, if_neg (fun hh => hall hh.2.2.2.2)]
  · rw [show (((b.length : Int) % 16) != 0) = true from by simp only [bne_iff_ne, ne_eq]; omega, cbc_Empty.j0, if_pos rfl, if_neg (by omega)]
theorem emptyL_fillL (t : List Int) : emptyL (fillL t) = (t, none) := by
  have hl := fillL_length t
  have hn := fillN_le t
  have hl2 : (fillL t).length = t.length + fillN t := by simp [fillL]
  have hr : rd (fillL t) (((fillL t).length - 1 : Nat) : Int) = ((fillN t : Nat) : Int) := by
    rw [hl2]
    simp only [rd, fillL, Int.toNat_natCast, List.getD_eq_getElem?_getD]
    rw [List.getElem?_append_right (by omega), List.getElem?_replicate, if_pos (by omega)]
    rfl
  unfold emptyL
  rw [hr, Int.toNat_natCast, hl2, Nat.add_sub_cancel]
  rw [if_pos]
  · simp [fillL]
  · refine ⟨by omega, by omega, by omega, by omega, fun x hx => ?_⟩
    simp only [fillL, List.drop_left] at hx
    exact List.eq_of_mem_replicate hx
theorem fillL_emptyL (b t : List Int) (h : emptyL b = (t, none)) : fillL t = b := by
  unfold emptyL at h
  split at h
  · rename_i hc
    obtain ⟨h1, h0, hlo, hhi, hall⟩ := hc
    injection h with h _
    obtain ⟨N, hN⟩ : ∃ N : Nat, rd b ((b.length - 1 : Nat) : Int) = N := ⟨(rd b ((b.length - 1 : Nat) : Int)).toNat, by omega⟩
    rw [hN] at h hlo hhi hall
    rw [Int.toNat_natCast] at h hall
    subst h
    have hle : N ≤ b.length := by omega
    have hf : fillN (b.take (b.length - N)) = N := by simp only [fillN, List.length_take]; omega
    rw [fillL, hf]
    have hd : b.drop (b.length - N) = List.replicate N (N : Int) := by
      rw [List.eq_replicate_iff]
      exact ⟨by simp; omega, hall⟩
    rw [← hd, List.take_append_drop]
  · injection h with _ h
    cases h
theorem emptyL_err (b : List Int) (t : List Int) (e : Option Int) (h : emptyL b = (t, e)) : e = none ∨ (t = [] ∧ e = some 7) := by
  unfold emptyL at h
  split at h <;> injection h with h1 h2
  · exact .inl h2.symm
  · exact .inr ⟨h1.symm, h2.symm⟩
theorem bytes_of (l : List Int) (hw : ∀ x ∈ l, (Lit.int .u8 x).wf = true) : Bytes l := by
  intro x hx
  have h : IntKind.u8.min ≤ x ∧ x ≤ IntKind.u8.max := by simpa [Lit.wf] using hw x hx
  have e1 : IntKind.u8.min = 0 := by decide +kernel
  have e2 : IntKind.u8.max = 255 := by decide +kernel
  omega
theorem fillL_bytes' (t : List Int) (ht : Bytes t) : Bytes (fillL t) := by
  have hn := fillN_le t
  intro x hx
  rcases List.mem_append.1 hx with h | h
  · exact ht x h
  · have := List.eq_of_mem_replicate h
    omega
theorem bytes_inj : ∀ (X Y : List Int), Bytes X → Bytes Y → Lib.bytesOf X = Lib.bytesOf Y → X = Y
  | [], [], _, _, _ => rfl
  | [], _ :: _, _, _, h => by simp [Lib.bytesOf] at h
  | _ :: _, [], _, _, h => by simp [Lib.bytesOf] at h
  | x :: X, y :: Y, hX, hY, h => by
    simp only [Lib.bytesOf, List.map_cons, List.cons.injEq] at h
    have h1 := hX x (by simp)
    have h2 := hY y (by simp)
    have h3 := congrArg UInt8.toNat h.1
    simp only [UInt8.toNat_ofNat'] at h3
    rw [show x = y from by omega, bytes_inj X Y (fun z hz => hX z (by simp [hz])) (fun z hz => hY z (by simp [hz])) h.2]
theorem str_inj (a b : List Int) (ha : Bytes a) (hb : Bytes b) (h : (strOfNums a).toList = (strOfNums b).toList) : a = b := by
  rw [Lib.strOfNums_toList, Lib.strOfNums_toList] at h
  exact bytes_inj a b ha hb h
theorem copen_ok (m : Nat) (key begin c : List Int) (hk : By16 key) (hb : begin.length = 16) (hc : Bytes c) (n : Nat) (hn : c.length = 16 * n) (h0 : n ≠ 0) (h1 : n ≤ 4097) : cbc_Open.f (m + 200) key begin c = some (emptyL (openF (kgo 10 [key] key 1) begin (blkTo c n)).1) := by
  unfold cbc_Open.f
  obtain ⟨M, hM⟩ : ∃ M, m + 200 = M := ⟨_, rfl⟩
  rw [hM, if_neg (by simp [hk.1]), if_neg (by omega), if_neg (by omega), if_neg (by omega), if_neg (by omega)]
  have hK := aesKeys_ok (M - 181) key hk
  rw [show M - 181 + 181 = M from by omega] at hK
  rw [hK, Option.bind_some, cbc_Open.g, if_pos ⟨rfl, keys_okK key hk, by omega⟩, show c.length / 16 = n from by omega]
  have ho := openF_out (kgo 10 [key] key 1) begin c hc n hn
  have he := empty_ok (M - 20) _ ho.2 (by omega)
  rw [show M - 20 + 20 = M from by omega] at he
  exact he
end Go.Proofs.Ytpcdkfbngoagnaa.Pure
