-- PRINTED by print.py (a twelfth state) out of the translation. Not trusted: Lean checks it.
import Derived.Test.YtpcdkfbngoagnaaCx0
namespace Go.Proofs.Ytpcdkfbngoagnaa.C
open Go.RowKit Go.Proofs.YtpcdkfbngoagnaaW.PrintWords Go.Proofs.YtpcdkfbngoagnaaW.PrintLast Go.Proofs.YtpcdkfbngoagnaaW.PrintMore
attribute [local go_sem] max2_int min2_int max_two min_two max_three min_three max_four min_four   -- for this text's walks alone
set_option linter.unusedVariables false
set_option linter.unusedSimpArgs false

-- OWN FILE
/-! ### aes_origins: function 42 -/
def aes_origins_L : List Int := [
 82, 9, 106, 213, 48, 54, 165, 56, 191, 64, 163, 158, 129, 243, 215, 251,
 124, 227, 57, 130, 155, 47, 255, 135, 52, 142, 67, 68, 196, 222, 233, 203,
 84, 123, 148, 50, 166, 194, 35, 61, 238, 76, 149, 11, 66, 250, 195, 78,
 8, 46, 161, 102, 40, 217, 36, 178, 118, 91, 162, 73, 109, 139, 209, 37,
 114, 248, 246, 100, 134, 104, 152, 22, 212, 164, 92, 204, 93, 101, 182, 146,
 108, 112, 72, 80, 253, 237, 185, 218, 94, 21, 70, 87, 167, 141, 157, 132,
 144, 216, 171, 0, 140, 188, 211, 10, 247, 228, 88, 5, 184, 179, 69, 6,
 208, 44, 30, 143, 202, 63, 15, 2, 193, 175, 189, 3, 1, 19, 138, 107,
 58, 145, 17, 65, 79, 103, 220, 234, 151, 242, 207, 206, 240, 180, 230, 115,
 150, 172, 116, 34, 231, 173, 53, 133, 226, 249, 55, 232, 28, 117, 223, 110,
 71, 241, 26, 113, 29, 41, 197, 137, 111, 183, 98, 14, 170, 24, 190, 27,
 252, 86, 62, 75, 198, 210, 121, 32, 154, 219, 192, 254, 120, 205, 90, 244,
 31, 221, 168, 51, 136, 7, 199, 49, 177, 18, 16, 89, 39, 128, 236, 95,
 96, 81, 127, 169, 25, 181, 74, 13, 45, 229, 122, 159, 147, 201, 156, 239,
 160, 224, 59, 77, 174, 42, 245, 176, 200, 235, 187, 60, 131, 83, 153, 97,
 23, 43, 4, 126, 186, 119, 214, 38, 225, 105, 20, 99, 85, 33, 12, 125]
def aes_origins.f : Option (List Int) := some aes_origins_L
theorem aes_origins_cells : (aes_origins_L.map (Value.int .u8)).toArray = arrV 256 .u8 aes_origins_L := by kernel_rfl
set_option maxHeartbeats 1000000 in
set_option maxRecDepth 100000 in
theorem aes_origins.calls (r : List Int) (w : World) (h : aes_origins.f = some r) :
 Calls Try.prog 42 #[] w fun e w' => e = .returned (.agg (arrV 256 .u8 r)) ∧ Below w.heap.size w w' := by
 obtain rfl := Option.some.inj h
 clear h
 have hz51 : ∀ W : World, (zeroValue 51).run Try.prog W = .ok (.agg (arrV 256 .u8 [])) W := fun _ => by kernel_rfl
 have hst := run_storeAt_new (P := Try.prog) w 51 (arrV 256 .u8 []) (arrV 256 .u8 aes_origins_L) (by kernel_rfl) (by kernel_rfl) (by kernel_rfl)
 have hst2 := run_storeCells_new (P := Try.prog) w 51 (arrV 256 .u8 []) (arrV 256 .u8 aes_origins_L) (by kernel_rfl) (by kernel_rfl) (by kernel_rfl)
 have hsz := arrV_size
 go_enter Try.func42, Try.ntmps42
 go_wp2_with (refine wpList_buildFlatArrTo rfl 51 5 256 _ rfl .u8 aes_origins_L (some 1) rfl Try.underlying51 (by kernel_rfl) (by kernel_rfl) (by kernel_rfl) ?_; rw [aes_origins_cells])
 refine bodyPost_ret (v := .agg (arrV 256 .u8 aes_origins_L)) (results_cell_row rfl _ _ w.heap.size 51 _ (0, 0) _ rfl (heap_alloc_last w _) Try.underlying51 rfl (by kernel_rfl)) rfl ⟨rfl, (Below.refl _ _).alloc (Nat.le_refl _) _⟩

end Go.Proofs.Ytpcdkfbngoagnaa.C

-- LEAN
