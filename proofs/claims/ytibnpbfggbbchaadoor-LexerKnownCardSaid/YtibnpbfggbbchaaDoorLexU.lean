/- The statements' Told. -/
import Derived.Test.YtibnpbfggbbchaaDoorLexT
import Derived.Deep.RegionWith
import Derived.Deep.RegionHeld3
namespace Go.Proofs.YtibnpbfggbbchaaDoor
open Go.RowKit Go.Lib Go.Extern.Stop Go.Stop Go.Extern

theorem told_nil (w : World) : Calls Tryd.prog 17 #[.nilIface, .pointer none] w fun e w' => e = .returned (.bool true) ∧ w = w' := by
  go_enter Tryd.func17, Tryd.ntmps17
  go_wp2
  go_ret
  exact ⟨rfl, rfl⟩

def FltCells (f : Flt) : Obj := .cells #[.int .i64 f.1, .int .i64 f.2.1, .string ⟨f.2.2.toArray⟩] 46 (0, 0)
set_option maxHeartbeats 4000000 in
set_option maxRecDepth 100000 in
theorem told_hit (c p : Nat) (T : ByteArray) (b1 b2 : Nat) (w : World) (hE : GlE w) (h1 : w.heap[b1]? = some (.cells #[.int .i64 c, .int .i64 p, .string T] 46 (0, 0))) (h2 : w.heap[b2]? = some (.cells #[.int .i64 c, .int .i64 p, .string T] 46 (0, 0))) :
    Calls Tryd.prog 17 #[.iface 32 (.pointer (some ⟨b1, 0, none⟩)), .pointer (some ⟨b2, 0, none⟩)] w fun e w' => e = .returned (.bool true) ∧ Below w.heap.size w w' := by
  have hb0 : Below w.heap.size w (w.alloc (.cells #[.pointer none] 32)) := (Below.refl _ _).alloc (Nat.le_refl _) _
  have cA := as_hit2 ⟨b1, 0, none⟩ ⟨w.heap.size, 0, none⟩ (.pointer none) (w.alloc (.cells #[.pointer none] 32)).drew (hE.below hb0.drew) (by simp) (by simp)
  have hl1 : b1 < w.heap.size := (Array.getElem?_eq_some_iff.1 h1).1
  have hl2 : b2 < w.heap.size := (Array.getElem?_eq_some_iff.1 h2).1
  have hk : ∀ w3 : World, (∀ k, k ≠ w.heap.size → k < (w.alloc (.cells #[.pointer none] 32)).drew.heap.size → w3.heap[k]? = (w.alloc (.cells #[.pointer none] 32)).drew.heap[k]?) →
      (w3.cell? ⟨b1, 0, none⟩ = some (.int .i64 c) ∧ w3.cell? ⟨b1, 1, none⟩ = some (.int .i64 p) ∧ w3.cell? ⟨b1, 2, none⟩ = some (.string T)) ∧
      (w3.cell? ⟨b2, 0, none⟩ = some (.int .i64 c) ∧ w3.cell? ⟨b2, 1, none⟩ = some (.int .i64 p) ∧ w3.cell? ⟨b2, 2, none⟩ = some (.string T)) := by
    intro w3 h
    have g1 := h b1 (by omega) (by simp; omega)
    have g2 := h b2 (by omega) (by simp; omega)
    rw [heap_drew, Below.heap_alloc _ _ _ hl1, h1] at g1
    rw [heap_drew, Below.heap_alloc _ _ _ hl2, h2] at g2
    exact ⟨⟨cell_of_row w3 b1 0 _ _ _ g1, cell_of_row w3 b1 1 _ _ _ g1, cell_of_row w3 b1 2 _ _ _ g1⟩, ⟨cell_of_row w3 b2 0 _ _ _ g2, cell_of_row w3 b2 1 _ _ _ g2, cell_of_row w3 b2 2 _ _ _ g2⟩⟩
  clear h1 h2 hE
  go_enter Tryd.func17, Tryd.ntmps17
  go_wp2_with fail
  go_region_with (first | (go_at_call 23; (with_reducible refine cA.mono ?_); rintro e w3 ⟨rfl, ha1, ha2, ha3⟩; obtain ⟨⟨r0, r1, r2⟩, ⟨s0, s1, s2⟩⟩ := hk w3 ha3; clear ha3) | (go_at_call 28; refine (is_fault b1 c _ (by assumption)).mono ?_; rintro e w4 ⟨rfl, rfl⟩))
  all_goals go_wp2
  all_goals go_ret
  all_goals exact ⟨rfl, hb0.drew.trans (by assumption)⟩
end Go.Proofs.YtibnpbfggbbchaaDoor
