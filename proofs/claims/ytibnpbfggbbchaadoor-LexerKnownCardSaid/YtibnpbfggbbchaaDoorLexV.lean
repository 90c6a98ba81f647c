/- Tokens put together: what the answer is, in plain Lean; slices of tokens that came in. -/
import Derived.Test.YtibnpbfggbbchaaDoorLexT
namespace Go.Proofs.YtibnpbfggbbchaaDoor
open Go.RowKit Go.Lib

/-- A token that came in: kind, text, place. -/
abbrev Ta := Int × ByteArray × Int
/-- Is a token's text one token of its kind? -/
def okT (u : Ta) : Bool := decide (0 < (wordL u.2.1.data.toList).2) && decide (((wordL u.2.1.data.toList).1 : Int) = u.1) && decide ((wordL u.2.1.data.toList).2 = u.2.1.size) && decide (skipL u.2.1.data.toList = 0)
def joinL (l : List Ta) : List UInt8 := Lib.join (l.map fun u => u.2.1.data.toList) [32]
def joinR (l : List Ta) : List UInt8 × Int :=
  if 4096 < l.length then ([], 3) else if l.all okT then (if 65536 < (joinL l).length then ([], 3) else (joinL l, 0)) else ([], 2)

/-- A slice of tokens as a world holds it. -/
def ARow (w : World) (x : Option Addr) (l : List Ta) : Prop :=
  ∀ i u, l[i]? = some u → ∃ g o, x = some ⟨g, o, none⟩ ∧ w.cell? ⟨g, o + i * 3, none⟩ = some (.int .i64 u.1) ∧ w.cell? ⟨g, o + i * 3 + 1, none⟩ = some (.string u.2.1) ∧ w.cell? ⟨g, o + i * 3 + 2, none⟩ = some (.int .i64 u.2.2)
theorem ARow.below {w w' : World} {x : Option Addr} {l : List Ta} (h : ARow w x l) (hb : Below w.heap.size w w') : ARow w' x l := by
  intro i u hu
  obtain ⟨g, o, h1, h2, h3, h4⟩ := h i u hu
  have hg : g < w.heap.size := World.block_lt_of_cell? w _ h2
  exact ⟨g, o, h1, (hb.cell (p := ⟨g, o + i * 3, none⟩) hg).trans h2, (hb.cell (p := ⟨g, o + i * 3 + 1, none⟩) hg).trans h3, (hb.cell (p := ⟨g, o + i * 3 + 2, none⟩) hg).trans h4⟩
/-- A token of a text as one that came in. -/
def tka (t : Tk) : Ta := (t.1, ⟨t.2.1.toArray⟩, t.2.2)
theorem TokRow.arow {w : World} {x : Option Addr} {ts : List Tk} (h : TokRow w x ts) : ARow w x (ts.map tka) := by
  intro i u hu
  rw [List.getElem?_map] at hu
  obtain ⟨t, ht, rfl⟩ := Option.map_eq_some_iff.1 hu
  obtain ⟨g, h1, h2, h3, h4⟩ := h i t ht
  exact ⟨g, 0, h1, by simpa [tka] using h2, by simpa [tka] using h3, by simpa [tka] using h4⟩

theorem okT_iff (u : Ta) : okT u = true ↔ 0 < (wordL u.2.1.data.toList).2 ∧ ((wordL u.2.1.data.toList).1 : Int) = u.1 ∧ (wordL u.2.1.data.toList).2 = u.2.1.size ∧ skipL u.2.1.data.toList = 0 := by
  simp [okT, and_assoc]
theorem all_take_succ {l : List Ta} {i : Nat} {u : Ta} (h : l[i]? = some u) : (l.take (i + 1)).all okT = ((l.take i).all okT && okT u) := by
  rw [List.take_add_one, h]
  simp
theorem all_take_false {l : List Ta} {i : Nat} {u : Ta} (h : l[i]? = some u) (hu : okT u = false) : l.all okT = false := by
  apply Bool.eq_false_iff.2
  intro ha
  have := List.all_eq_true.1 ha u (List.mem_of_getElem? h)
  rw [hu] at this
  cases this
end Go.Proofs.YtibnpbfggbbchaaDoor
