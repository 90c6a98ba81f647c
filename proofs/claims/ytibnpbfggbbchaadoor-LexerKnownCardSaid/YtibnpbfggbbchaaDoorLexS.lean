/- lexer.signs hands its 24 signs over. -/
import Derived.Test.YtibnpbfggbbchaaDoorLexB
import Derived.Deep.WholeRow
import Derived.Great.BuildSlice
namespace Go.Proofs.YtibnpbfggbbchaaDoor
open Go.RowKit Go.Lib

def signArr : Array Value := #[.string ⟨#[124, 124]⟩, .string ⟨#[38, 38]⟩, .string ⟨#[60, 61]⟩, .string ⟨#[61, 61]⟩, .string ⟨#[33, 61]⟩, .string ⟨#[62, 61]⟩, .string ⟨#[43]⟩, .string ⟨#[45]⟩, .string ⟨#[42]⟩, .string ⟨#[47]⟩, .string ⟨#[60]⟩, .string ⟨#[62]⟩, .string ⟨#[33]⟩, .string ⟨#[63]⟩, .string ⟨#[58]⟩, .string ⟨#[44]⟩, .string ⟨#[59]⟩, .string ⟨#[61]⟩, .string ⟨#[40]⟩, .string ⟨#[41]⟩, .string ⟨#[91]⟩, .string ⟨#[93]⟩, .string ⟨#[123]⟩, .string ⟨#[125]⟩]
theorem idx_signs (w : World) : ∀ (k : Nat), k < 24 → (Instr.index 63 (.agg signArr) (.int .i64 (k : Int))).run Tryd.prog w = .ok (.string ⟨(signs.getD k []).toArray⟩) w
  | 0, _ => by kernel_rfl
  | 1, _ => by kernel_rfl
  | 2, _ => by kernel_rfl
  | 3, _ => by kernel_rfl
  | 4, _ => by kernel_rfl
  | 5, _ => by kernel_rfl
  | 6, _ => by kernel_rfl
  | 7, _ => by kernel_rfl
  | 8, _ => by kernel_rfl
  | 9, _ => by kernel_rfl
  | 10, _ => by kernel_rfl
  | 11, _ => by kernel_rfl
  | 12, _ => by kernel_rfl
  | 13, _ => by kernel_rfl
  | 14, _ => by kernel_rfl
  | 15, _ => by kernel_rfl
  | 16, _ => by kernel_rfl
  | 17, _ => by kernel_rfl
  | 18, _ => by kernel_rfl
  | 19, _ => by kernel_rfl
  | 20, _ => by kernel_rfl
  | 21, _ => by kernel_rfl
  | 22, _ => by kernel_rfl
  | 23, _ => by kernel_rfl
  | n + 24, h => absurd h (by omega)
def signOld : Array Value := #[.string ⟨#[]⟩, .string ⟨#[]⟩, .string ⟨#[]⟩, .string ⟨#[]⟩, .string ⟨#[]⟩, .string ⟨#[]⟩, .string ⟨#[]⟩, .string ⟨#[]⟩, .string ⟨#[]⟩, .string ⟨#[]⟩, .string ⟨#[]⟩, .string ⟨#[]⟩, .string ⟨#[]⟩, .string ⟨#[]⟩, .string ⟨#[]⟩, .string ⟨#[]⟩, .string ⟨#[]⟩, .string ⟨#[]⟩, .string ⟨#[]⟩, .string ⟨#[]⟩, .string ⟨#[]⟩, .string ⟨#[]⟩, .string ⟨#[]⟩, .string ⟨#[]⟩]
theorem sz_signs : (Tryd.prog.info? 63).map (·.size) = some signArr.size := by kernel_rfl
theorem one_signs : signArr.all (·.oneCell') = true := by kernel_rfl
set_option maxHeartbeats 1000000 in
theorem signs_any (w : World) : Calls Tryd.prog 36 #[] w fun e w' => e = .returned (.agg signArr) ∧ Below w.heap.size w w' := by
  go_enter Tryd.func36, Tryd.ntmps36
  go_wp2_with (refine wpList_store_rowTo rfl 63 (.tmp 0) (.tmp 1) rfl rfl w.heap.size signArr rfl rfl 63 signOld (heap_alloc_last w _) sz_signs rfl one_signs ?_; rw [World.setRow_alloc_new])
  exact bodyPost_ret (v := .agg signArr) (results_cell_row rfl _ _ w.heap.size 63 signArr (0, 0) _ rfl (heap_alloc_last w _) Tryd.underlying63 rfl sz_signs) rfl ⟨rfl, (Below.refl _ _).alloc (Nat.le_refl _) _⟩
end Go.Proofs.YtibnpbfggbbchaaDoor
