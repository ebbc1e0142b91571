import Derived.Test.YtpcdkfbngoagnaaPInv
import Derived.Test.YtpcdkfbngoagnaaCx22
import Derived.Test.YtpcdkfbngoagnaaCx23
import Derived.Test.YtpcdkfbngoagnaaCx25
import Derived.Lib.Bytes
namespace Go.Proofs.Ytpcdkfbngoagnaa.Pure
set_option linter.unusedVariables false
open Go.RowKit Go.Proofs.Ytpcdkfbngoagnaa.C Go.Proofs.YtpcdkfbngoagnaaW.PrintWords Go.Proofs.YtpcdkfbngoagnaaW.PrintLast Go.Proofs.YtpcdkfbngoagnaaW.PrintMore

/-! ### A text filled -/
def fillN (l : List Int) : Nat := 16 - l.length % 16
def fillL (l : List Int) : List Int := l ++ List.replicate (fillN l) ((fillN l : Nat) : Int)
theorem fillN_le (l : List Int) : 1 ≤ fillN l ∧ fillN l ≤ 16 := by unfold fillN; omega
theorem fillL_length (l : List Int) : (fillL l).length = 16 * (l.length / 16 + 1) := by
  simp only [fillL, fillN, List.length_append, List.length_replicate]
  omega
theorem wrapN (i : Nat) (h : i < 1000000000000000) : wrap64 ((i : Int) + 1) = ((i + 1 : Nat) : Int) := by unfold wrap64; omega
theorem fill_go (x n : Int) : ∀ (d i m : Nat) (l : List Int), (i : Int) + d = n → i + d ≤ 16 → l.length + d < 140737488355328 → cbc_Fill.l0 (m + d + 1) x l n i = some (l ++ List.replicate d (x % 256)) := by
  intro d
  induction d with
  | zero =>
    intro i m l h _ _
    rw [cbc_Fill.l0, if_neg (by omega)]
    simp
  | succ d ih =>
    intro i m l h h16 hl
    rw [show m + (d + 1) + 1 = (m + d + 1) + 1 from by omega, cbc_Fill.l0, if_pos (by omega), if_pos (by omega), wrapN i (by omega), ih (i + 1) m _ (by omega) (by omega) (by simp; omega)]
    simp [List.replicate_succ]
theorem rfill_go (n : Int) : ∀ (d i m : Nat) (l : List Int), (i : Int) + d = n → i + d ≤ 16 → l.length + d < 140737488355328 → charterref04_Fill.l0 (m + d + 1) l n i = some (l ++ List.replicate d (n % 256)) := by
  intro d
  induction d with
  | zero =>
    intro i m l h _ _
    rw [charterref04_Fill.l0, if_neg (by omega)]
    simp
  | succ d ih =>
    intro i m l h h16 hl
    rw [show m + (d + 1) + 1 = (m + d + 1) + 1 from by omega, charterref04_Fill.l0, if_pos (by omega), if_pos (by omega), wrapN i (by omega), ih (i + 1) m _ (by omega) (by omega) (by simp; omega)]
    simp [List.replicate_succ]
theorem fill_ok (m : Nat) (l : List Int) (h : l.length < 140737488355000) : cbc_Fill.f (m + 17) l = some (fillL l) := by
  have hn := fillN_le l
  have he : (16 - ((l.length : Int) % 16)) = ((fillN l : Nat) : Int) := by unfold fillN; omega
  unfold cbc_Fill.f slices_Clone_byte_byte.f
  rw [if_pos (by omega), Option.bind_some, he]
  have h0 := fill_go ((fillN l : Nat) : Int) ((fillN l : Nat) : Int) (fillN l) 0 (m + 16 - fillN l) l (by omega) (by omega) (by omega)
  rw [show m + 16 - fillN l + fillN l + 1 = m + 17 from by omega, show (((fillN l : Nat) : Int) % 256) = ((fillN l : Nat) : Int) from by omega, show (((0 : Nat) : Int)) = 0 from rfl] at h0
  exact h0
theorem rfill_ok (m : Nat) (l : List Int) (h : l.length < 140737488355000) : charterref04_Fill.f (m + 17) l = some (fillL l) := by
  have hn := fillN_le l
  have he : (16 - ((l.length : Int) % 16)) = ((fillN l : Nat) : Int) := by unfold fillN; omega
  unfold charterref04_Fill.f
  simp only [Option.bind_some, List.nil_append, List.length_nil]
  rw [if_pos (by omega), he]
  have h0 := rfill_go ((fillN l : Nat) : Int) (fillN l) 0 (m + 16 - fillN l) l (by omega) (by omega) (by omega)
  rw [show m + 16 - fillN l + fillN l + 1 = m + 17 from by omega, show (((fillN l : Nat) : Int) % 256) = ((fillN l : Nat) : Int) from by omega, show (((0 : Nat) : Int)) = 0 from rfl] at h0
  exact h0

/-! ### Sealed by the reference -/
theorem xor_take (s l : List Int) (hs : s.length = 16) (j : Nat) (hj : j < 16) : (xorS s l 16).take (j + 1) = (xorS s l 16).take j ++ [Go.bits .xor .u8 (s.getD j 0) (l.getD j 0)] := by
  have hl : j < (xorS s l 16).length := by rw [xorS_length, hs]; exact hj
  rw [List.take_add_one, List.getElem?_eq_getElem hl]
  have := xorS_at s l hs j hj
  rw [List.getD_eq_getElem?_getD, List.getElem?_eq_getElem hl, Option.getD_some] at this
  rw [this]
  rfl
theorem blkAt_get (b : List Int) (i j : Nat) (hj : j < 16) : (blkAt b i).getD j 0 = b.getD (16 * i + j) 0 := by
  simp only [blkAt, List.getD_eq_getElem?_getD, List.getElem?_take, List.getElem?_drop, if_pos hj]
theorem rseal_l1 (x0 x1 x9 x10 x11 : List Int) (h10 : x10.length = 16) (i : Nat) (hi : 16 * i + 16 ≤ x11.length) (hb : x11.length < 100000000000000) : ∀ (d j m : Nat), j + d = 16 →
    charterref04_Seal.l1 (m + d + 1) x0 x1 x9 x10 x11 ((16 * i : Nat) : Int) ((xorS (blkAt x11 i) x10 16).take j) j =
      (charterref03_Encrypt.f m x0 x1 (xorS (blkAt x11 i) x10 16)).bind fun t337 => (if x9.length + t337.length < 140737488355328 then (charterref04_Seal.l0 m x0 x1 (x9 ++ t337) t337 x11 (((16 * (i + 1) : Nat) : Int))) else (none)) := by
  intro d
  have hs := blkAt_len hi
  have hxl := xorS_length (blkAt x11 i) x10 16
  induction d with
  | zero =>
    intro j m h
    obtain rfl : j = 16 := by omega
    rw [charterref04_Seal.l1, if_neg (by omega), List.take_of_length_le (by omega)]
    have hw : wrap64 (((16 * i : Nat) : Int) + 16) = ((16 * (i + 1) : Nat) : Int) := by unfold wrap64; omega
    rw [hw]
  | succ d ih =>
    intro j m h
    have hw : wrap64 (((16 * i : Nat) : Int) + (j : Int)) = ((16 * i + j : Nat) : Int) := by unfold wrap64; omega
    rw [show m + (d + 1) + 1 = (m + d + 1) + 1 from by omega, charterref04_Seal.l1, if_pos (by omega), hw, if_pos (by omega), if_pos (by omega), if_pos (by omega), if_pos (by omega), if_pos (by simp; omega), wrapN j (by omega), ← ih (j + 1) m (by omega)]
    congr 1
    rw [xor_take _ _ hs j (by omega), blkAt_get x11 i j (by omega)]
    simp only [rd, Int.toNat_natCast]
theorem rseal_l0 (key : List Int) (hk : By16 key) (b : List Int) (hb : b.length < 100000000000000) : ∀ (d i m : Nat) (out last : List Int), last.length = 16 → 16 * (i + d) = b.length → out.length + 16 * d < 140000000000000 →
    charterref04_Seal.l0 (m + 601 + 18 * d) aes_substitutes_L key out last b ((16 * i : Nat) : Int) = some (((List.range' i d).map (blkAt b)).foldl (sealS (kgo 10 [key] key 1)) (out, last)).1 := by
  intro d
  induction d with
  | zero =>
    intro i m out last _ h _
    rw [show m + 601 + 18 * 0 = m + 600 + 1 from by omega, charterref04_Seal.l0, if_neg (by omega)]
    rfl
  | succ d ih =>
    intro i m out last hl h ho
    have hi : 16 * i + 16 ≤ b.length := by omega
    have hs := blkAt_len hi
    rw [show m + 601 + 18 * (d + 1) = (m + 601 + 18 * d + 16 + 1) + 1 from by omega, charterref04_Seal.l0, if_pos (by omega)]
    have h1 := rseal_l1 aes_substitutes_L key out last b hl i hi hb 16 0 (m + 601 + 18 * d) (by omega)
    rw [List.take_zero, show (((0 : Nat) : Int)) = 0 from rfl] at h1
    rw [h1]
    have he := refEnc_ok (m + 1 + 18 * d) key (xorS (blkAt b i) last 16) hk (add_by _ _ hs)
    rw [show m + 1 + 18 * d + 600 = m + 601 + 18 * d from by omega] at he
    rw [he, Option.bind_some]
    have hel := encR_length (kgo 10 [key] key 1) (xorS (blkAt b i) last 16) (by rw [xorS_length]; exact hs) 10
    rw [if_pos (by omega), ih (i + 1) m _ _ hel (by omega) (by rw [List.length_append, hel]; omega), List.range'_succ, List.map_cons, List.foldl_cons]
    rfl
theorem rseal_ok (m : Nat) (key begin t : List Int) (hk : By16 key) (hb : begin.length = 16) (ht : t.length ≤ 65536) : charterref04_Seal.f (m + 100000) aes_substitutes_L key begin t = some (sealF (kgo 10 [key] key 1) begin (blkTo (fillL t) (t.length / 16 + 1))).1 := by
  have hfl := fillL_length t
  unfold charterref04_Seal.f
  obtain ⟨M, hM⟩ : ∃ M, m + 100000 = M := ⟨_, rfl⟩
  rw [hM]
  have hf := rfill_ok (M - 17) t (by omega)
  rw [show M - 17 + 17 = M from by omega] at hf
  rw [hf, Option.bind_some]
  have h0 := rseal_l0 key hk (fillL t) (by omega) (t.length / 16 + 1) 0 (M - 601 - 18 * (t.length / 16 + 1)) [] begin hb (by omega) (by simp; omega)
  rw [show M - 601 - 18 * (t.length / 16 + 1) + 601 + 18 * (t.length / 16 + 1) = M from by omega, show ((16 * 0 : Nat) : Int) = 0 from rfl] at h0
  rw [h0, sealF, blkTo, List.range_eq_range']
theorem seal_err_arg (k : Nat) (key begin t : List Int) (h : key.length ≠ 16 ∨ begin.length ≠ 16) : cbc_Seal.f k key begin t = some ([], some 1) := by
  unfold cbc_Seal.f
  by_cases h0 : key.length ≠ 16
  · rw [if_pos h0]
  · rw [if_neg h0, if_pos (h.resolve_left h0)]
theorem cseal_ok (m : Nat) (key begin t : List Int) (hk : By16 key) (hb : begin.length = 16) (ht : t.length ≤ 65536) : cbc_Seal.f (m + 200) key begin t = some ((sealF (kgo 10 [key] key 1) begin (blkTo (fillL t) (t.length / 16 + 1))).1, none) := by
  have hfl := fillL_length t
  unfold cbc_Seal.f
  obtain ⟨M, hM⟩ : ∃ M, m + 200 = M := ⟨_, rfl⟩
  rw [hM, if_neg (by simp [hk.1]), if_neg (by omega), if_neg (by omega)]
  have h1 := aesKeys_ok (M - 181) key hk
  rw [show M - 181 + 181 = M from by omega] at h1
  have hf := fill_ok (M - 17) t (by omega)
  rw [show M - 17 + 17 = M from by omega] at hf
  rw [h1, Option.bind_some, cbc_Seal.g, hf, Option.bind_some, if_pos ⟨rfl, keys_okK key hk, by omega, by omega, by omega, by omega⟩]
  rw [show (fillL t).length / 16 = t.length / 16 + 1 from by omega]
theorem up4_ok : charterlaw04_up.f 400 = some true := by decide +kernel
theorem cut_ok (l : List Int) (n : Nat) : charterlaw04_cut.f l n = some (l.take n) := by
  unfold charterlaw04_cut.f
  by_cases h : (l.length : Int) > n
  · rw [if_pos h, if_pos (by omega), if_pos (by omega)]
    simp
  · rw [if_neg h, List.take_of_length_le (by omega)]
end Go.Proofs.Ytpcdkfbngoagnaa.Pure
