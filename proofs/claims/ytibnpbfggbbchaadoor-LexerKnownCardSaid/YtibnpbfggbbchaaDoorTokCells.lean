/- The cells of an owned row of tokens. -/
import Derived.Test.YtibnpbfggbbchaaDoorLexN
namespace Go.Proofs.YtibnpbfggbbchaaDoor
open Go.RowKit Go.Lib

theorem tkFlat_at : ∀ (ts : List Tk) (i : Nat) (t : Tk), ts[i]? = some t → (tkFlat ts)[i * 3]? = some (.int .i64 t.1) ∧ (tkFlat ts)[i * 3 + 1]? = some (.string ⟨t.2.1.toArray⟩) ∧ (tkFlat ts)[i * 3 + 2]? = some (.int .i64 t.2.2)
  | [], i, t, h => by simp at h
  | u :: r, 0, t, h => by
    simp at h
    subst h
    exact ⟨rfl, rfl, rfl⟩
  | u :: r, i + 1, t, h => by
    have ih := tkFlat_at r i t (by simpa using h)
    have e : ∀ k, (tkFlat (u :: r))[(i + 1) * 3 + k]? = (tkFlat r)[i * 3 + k]? := fun k => by
      show (tkCells u ++ tkFlat r)[(i + 1) * 3 + k]? = _
      rw [List.getElem?_append_right (by simp [tkCells]; omega)]
      congr 1
      simp [tkCells]
      omega
    exact ⟨(e 0).trans ih.1, (e 1).trans ih.2.1, (e 2).trans ih.2.2⟩
/-- The cells of token i of an owned row of tokens, in a later world. -/
theorem tok_cells {w w' : World} {base : Nat} {e : TypeId} {g cap : Nat} {ts : List Tk} (h : w.ownsRow base e 3 (.slice (some ⟨g, 0, none⟩) ts.length cap) ts.length (tkFlat ts)) (hb : Below w.heap.size w w') (hg : g < w.heap.size) {i : Nat} {t : Tk} (ht : ts[i]? = some t) :
    w'.cell? ⟨g, i * 3, none⟩ = some (.int .i64 t.1) ∧ w'.cell? ⟨g, i * 3 + 1, none⟩ = some (.string ⟨t.2.1.toArray⟩) ∧ w'.cell? ⟨g, i * 3 + 2, none⟩ = some (.int .i64 t.2.2) := by
  have hi : i < ts.length := (List.getElem?_eq_some_iff.1 ht).1
  have hf := tkFlat_at ts i t ht
  refine ⟨?_, ?_, ?_⟩
  · rw [hb.cell (p := ⟨g, i * 3, none⟩) hg, h.cellAt _ (by omega)]; exact hf.1
  · rw [hb.cell (p := ⟨g, i * 3 + 1, none⟩) hg, h.cellAt _ (by omega)]; exact hf.2.1
  · rw [hb.cell (p := ⟨g, i * 3 + 2, none⟩) hg, h.cellAt _ (by omega)]; exact hf.2.2

/-- A cell is there behind a new block. -/
theorem al_cell {w : World} {p : Addr} {v : Value} (h : w.cell? p = some v) (o : Obj) : (w.alloc o).cell? p = some v := by
  rw [World.cell?_alloc_lt _ _ p (World.block_lt_of_cell? w p h)]
  exact h
end Go.Proofs.YtibnpbfggbbchaaDoor
