/- What the Scope rows' statements ask: Told. -/
import Derived.Test.YtpbkeamjdolpgaaGreatDoorS04
import Derived.Test.YtpbkeamjdolpgaaGreatDoorB20
import Derived.Deep.RegionWith
import Derived.Deep.RegionHeld3
namespace Go.Proofs.YtpbkeamjdolpgaaGreatDoor
open Go.RowKit Go.Lib Go.Extern.Stop Go.Stop Go.Extern

theorem stold_nil (w : World) : Calls Tryz.prog 39 #[.nilIface, .pointer none] w fun e w' => e = .returned (.bool true) ∧ w = w' := by
  go_enter Tryz.func39, Tryz.ntmps39
  go_wp2
  go_ret
  exact ⟨rfl, rfl⟩
set_option maxHeartbeats 4000000 in
set_option maxRecDepth 100000 in
theorem stold_hit (c p : Int) (T : ByteArray) (b1 b2 : Nat) (w : World) (hE : GlE w) (h1 : w.heap[b1]? = some (.cells #[.int .i64 c, .int .i64 p, .string T] 61 (0, 0))) (h2 : w.heap[b2]? = some (.cells #[.int .i64 c, .int .i64 p, .string T] 61 (0, 0))) :
    Calls Tryz.prog 39 #[.iface 23 (.pointer (some ⟨b1, 0, none⟩)), .pointer (some ⟨b2, 0, none⟩)] w fun e w' => e = .returned (.bool true) ∧ Below w.heap.size w w' := by
  have hb0 : Below w.heap.size w (w.alloc (.cells #[.pointer none] 23)) := (Below.refl _ _).alloc (Nat.le_refl _) _
  have cA := as_hit2 ⟨b1, 0, none⟩ ⟨w.heap.size, 0, none⟩ (.pointer none) (w.alloc (.cells #[.pointer none] 23)).drew (hE.below hb0.drew) (by simp) (by simp)
  have hl1 : b1 < w.heap.size := (Array.getElem?_eq_some_iff.1 h1).1
  have hl2 : b2 < w.heap.size := (Array.getElem?_eq_some_iff.1 h2).1
  have hk : ∀ w3 : World, (∀ k, k ≠ w.heap.size → k < (w.alloc (.cells #[.pointer none] 23)).drew.heap.size → w3.heap[k]? = (w.alloc (.cells #[.pointer none] 23)).drew.heap[k]?) →
      (w3.cell? ⟨b1, 0, none⟩ = some (.int .i64 c) ∧ w3.cell? ⟨b1, 1, none⟩ = some (.int .i64 p) ∧ w3.cell? ⟨b1, 2, none⟩ = some (.string T)) ∧
      (w3.cell? ⟨b2, 0, none⟩ = some (.int .i64 c) ∧ w3.cell? ⟨b2, 1, none⟩ = some (.int .i64 p) ∧ w3.cell? ⟨b2, 2, none⟩ = some (.string T)) := by
    intro w3 h
    have g1 := h b1 (by omega) (by simp; omega)
    have g2 := h b2 (by omega) (by simp; omega)
    rw [heap_drew, Below.heap_alloc _ _ _ hl1, h1] at g1
    rw [heap_drew, Below.heap_alloc _ _ _ hl2, h2] at g2
    exact ⟨⟨cell_of_row w3 b1 0 _ _ _ g1, cell_of_row w3 b1 1 _ _ _ g1, cell_of_row w3 b1 2 _ _ _ g1⟩, ⟨cell_of_row w3 b2 0 _ _ _ g2, cell_of_row w3 b2 1 _ _ _ g2, cell_of_row w3 b2 2 _ _ _ g2⟩⟩
  clear h1 h2 hE
  go_enter Tryz.func39, Tryz.ntmps39
  go_wp2_with fail
  go_region_with (first | (go_at_call 61; (with_reducible refine cA.mono ?_); rintro e w3 ⟨rfl, ha1, ha2, ha3⟩; obtain ⟨⟨r0, r1, r2⟩, ⟨s0, s1, s2⟩⟩ := hk w3 ha3; clear ha3) | (go_at_call 62; refine (is_fault b1 c _ (by assumption)).mono ?_; rintro e w4 ⟨rfl, rfl⟩))
  all_goals go_wp2
  all_goals go_ret
  all_goals exact ⟨rfl, hb0.drew.trans (by assumption)⟩
end Go.Proofs.YtpbkeamjdolpgaaGreatDoor
