/- A slice of tokens that came in: what its reading gives; its bulk; the frame of rows with a bound. -/
import Derived.Test.YtibnpbfggbbchaaDoorFr
import Derived.Test.YtibnpbfggbbchaaDoorLexY
import Derived.Deep.Slices
import Derived.Deep.Strs
import Derived.Deep.DeepHandedRow
import Derived.Carry
namespace Go.Proofs.YtibnpbfggbbchaaDoor
open Go.ChangeShapes Go.WideShapes Go.RowKit Go.Lib Go.ChangeAt Go.Deep

/-- A token's reading. -/
def tokD (H : Type) (u : Ta) : DataW H := .agg [.lit (.int .i64 u.1), .lit (.string u.2.1.data.toList), .lit (.int .i64 u.2.2)]
theorem bulk_tok (H : Type) (u : Ta) : u.2.1.data.toList.length + 1 ≤ Rows.uptoBulk (tokD H u) := by
  simp only [tokD, Rows.uptoBulk, Rows.uptoBulkAll]
  omega
theorem bulk_tail (H : Type) : ∀ l : List Ta, (Lib.joinTail [32] (l.map fun u => u.2.1.data.toList)).length ≤ Rows.uptoBulkAll (l.map (tokD H))
  | [] => by simp [Lib.joinTail]
  | u :: r => by
    have ih := bulk_tail H r
    have h1 := bulk_tok H u
    simp only [Lib.joinTail, List.map_cons, List.flatten_cons, List.length_append, List.length_singleton, Rows.uptoBulkAll] at ih ⊢
    omega
theorem bulk_join (H : Type) (l : List Ta) : (joinL l).length ≤ Rows.uptoBulkAll (l.map (tokD H)) := by
  match l with
  | [] => simp [joinL, Lib.join_nil]
  | u :: r =>
    have h1 := bulk_tok H u
    have h2 := bulk_tail H r
    unfold joinL
    rw [List.map_cons, Lib.join_cons, List.length_append, List.map_cons]
    simp only [Rows.uptoBulkAll]
    omega

theorem Tryd.structTok : ∃ f0 f1 f2 : Field, Tryd.prog.underlying 30 = some (.struct #[f0, f1, f2]) ∧ f0.type = 3 ∧ f1.type = 9 ∧ f2.type = 3 ∧ f0.offset = 0 ∧ f1.offset = 1 ∧ f2.offset = 2 :=
  ⟨_, _, _, Tryd.underlying30, rfl, rfl, rfl, rfl, rfl, rfl⟩
theorem Tryd.cTok : Tryd.prog.cellsOf 30 = 3 := by kernel_rfl
theorem Tryd.cInt : Tryd.prog.cellsOf 3 = 1 := by kernel_rfl
theorem Tryd.cString : Tryd.prog.cellsOf 9 = 1 := by kernel_rfl

theorem open_tok {H : Type} {enc : TypeId × Value → H} {W : World} {base : Nat} {spare : Nat → Bool} {held : Bool} {n : Nat} {cs : List Value} {d : DataW H} {p : List MemPlace}
    (h : DataW.trod enc Tryd.prog W base spare held n 30 cs = some (d, p)) : ∃ u : Ta, cs = [.int .i64 u.1, .string u.2.1, .int .i64 u.2.2] ∧ d = tokD H u := by
  obtain ⟨f0, f1, f2, hu, t0, t1, t2, o0, o1, o2⟩ := Tryd.structTok
  obtain ⟨y0, y1, y2, m, hx, hl, h0, h1, h2⟩ := trod_struct3 hu h
  rw [Tryd.cTok] at hl
  rw [t0, o0, Tryd.cInt] at h0
  rw [t1, o1, Tryd.cString] at h1
  rw [t2, o2, Tryd.cInt] at h2
  match cs, hl with
  | [a, b, c], _ =>
    obtain ⟨k, e0, x0, _⟩ := DataW.trod_int Tryd.underlying3 h0
    obtain ⟨s, e1, x1, _⟩ := DataW.trod_string Tryd.underlying9 h1
    obtain ⟨q, e2, x2, _⟩ := DataW.trod_int Tryd.underlying3 h2
    simp at e0 e1 e2
    subst e0 e1 e2
    refine ⟨(k, s, q), rfl, ?_⟩
    rw [x0, x1, x2] at hx
    simp only [Prod.mk.injEq] at hx
    exact hx.1

/-- A slice of tokens that came in. -/
theorem open_toks {H : Type} {enc : TypeId × Value → H} {W : World} {fuel : Nat} {a0 : Option Addr} {len cap : Nat} {d : DataW H} {p : List MemPlace}
    (h : DataW.trod enc Tryd.prog W 0 (fun _ => true) true fuel 24 [.slice a0 len cap] = some (d, p)) :
    ∃ l : List Ta, len = l.length ∧ ARow W a0 l ∧ (joinL l).length ≤ Rows.uptoBulk d := by
  rcases open_slice Tryd.underlying24 h with ⟨hc, hx⟩ | ⟨a, len', cap', m, n, D, Pl, hc, hb, hl, hm, hmm, hx, hcell⟩
  · simp at hc
    obtain ⟨rfl, rfl, rfl⟩ := hc
    exact ⟨[], rfl, fun i u hu => by simp at hu, by simp [joinL, Lib.join_nil]⟩
  · simp at hc
    obtain ⟨rfl, rfl, rfl⟩ := hc
    simp only [Prod.mk.injEq] at hx
    obtain ⟨hx1, hx2⟩ := hx
    clear hx2
    subst hx1
    simp only [if_true] at hmm
    have hlm : len ≤ m := by rw [hmm]; exact hl
    clear hm
    have hcell2 : ∀ i, i < len → ∃ cs, W.cells? 0 (a.add (i * 3)) 3 = some cs ∧ DataW.trod enc Tryd.prog W 0 (fun _ => true) true n 30 cs = some (D i, Pl i) := by
      intro i hi
      have h1 := hcell i (Nat.lt_of_lt_of_le hi hlm)
      rw [Tryd.cTok] at h1
      exact h1
    have hspot : 0 < len → a.spot = none := by
      intro h0
      obtain ⟨cs, h1, _⟩ := hcell2 0 h0
      have e0 := (World.cells?_some h1).2.2 0 (by decide)
      have hl3 := (World.cells?_some h1).2.1
      rw [List.getElem?_eq_getElem (by rw [hl3]; decide)] at e0
      simpa [Addr.add] using World.cell?_spot e0
    have each : ∀ i, i < len → ∃ u : Ta, (∃ g o, a = ⟨g, o, none⟩ ∧ W.cell? ⟨g, o + i * 3, none⟩ = some (.int .i64 u.1) ∧ W.cell? ⟨g, o + i * 3 + 1, none⟩ = some (.string u.2.1) ∧ W.cell? ⟨g, o + i * 3 + 2, none⟩ = some (.int .i64 u.2.2)) ∧ D i = tokD H u := by
      intro i hi
      obtain ⟨cs, h1, h2⟩ := hcell2 i hi
      obtain ⟨u, rfl, hd⟩ := open_tok h2
      obtain ⟨_, _, hcs⟩ := World.cells?_some h1
      have e0 := hcs 0 (by decide)
      have e1 := hcs 1 (by decide)
      have e2 := hcs 2 (by decide)
      have hsp := hspot (by omega)
      obtain ⟨g, o, sp⟩ := a
      obtain rfl : sp = none := hsp
      rw [Addr.add_lit, Addr.add_lit] at e0 e1 e2
      exact ⟨u, ⟨g, o, rfl, by simpa using e0, by simpa using e1, by simpa using e2⟩, hd⟩
    obtain ⟨q, hq⟩ := choose_lt each
    clear each hcell hmm h hb hl hlm
    refine ⟨(List.range len).map q, by simp, ?_, ?_⟩
    · intro i u hu
      rw [List.getElem?_map] at hu
      obtain ⟨j, hj, rfl⟩ := Option.map_eq_some_iff.1 hu
      have hj2 := List.getElem?_eq_some_iff.1 hj
      obtain ⟨hj3, hj4⟩ := hj2
      simp at hj3 hj4
      subst hj4
      obtain ⟨g, o, h1, h2⟩ := (hq i hj3).1
      exact ⟨g, o, by rw [h1], h2⟩
    · have hmap : (List.range len).map D = ((List.range len).map q).map (tokD H) := by
        rw [List.map_map]
        exact List.map_congr_left fun i hi => (hq i (List.mem_range.1 hi)).2
      have hj := bulk_join H ((List.range len).map q)
      rw [hmap]
      simp only [Rows.uptoBulk]
      omega

/-- A world that meets the condition of a row with a bound. -/
theorem s_witnessU {H : Type} {enc : TypeId × Value → H} (os : Os) {f : FuncId} {fn : Func} {s : OpenSpec} (args : Array Value)
    (hok : Input.okWideB Tryd.checked.prog ((seatWorld os).forCall (fun _ _ => 0) ⟨#[], args, []⟩) f ⟨#[], args, []⟩ = true)
    (hrow : s.preRow enc Tryd.checked.prog fn [] false seatLaid ((seatWorld os).forCall (fun _ _ => 0) ⟨#[], args, []⟩).memory args) :
    ∃ (w : World) (tape : Tape) (i : Input), w.os = os ∧ (w.forCall tape i).Shaped Tryd.checked.prog ∧ i.vars = [] ∧ Input.okWide Tryd.checked.prog (w.forCall tape i) .any w.heap.size f i ∧
      s.preRow enc Tryd.checked.prog fn [] false seatLaid (w.forCall tape i).memory i.args ∧ ({} : Assume).holds Tryd.checked.prog (lone (Frame.enter Tryd.checked.prog f i.args .normal) [] (w.forCall tape i)) :=
  ⟨seatWorld os, fun _ _ => 0, ⟨#[], args, []⟩, seatWorld_os os, seatWorld_shaped os args, (Input.okWide_of_okWideB (base := 0) hok).1, (Input.okWide_of_okWideB hok).2, hrow, by
    simp only [Assume.holds]
    exact ⟨by simp, by simp, fun _ => Modest.zero, by simp, by simp⟩⟩
end Go.Proofs.YtibnpbfggbbchaaDoor
