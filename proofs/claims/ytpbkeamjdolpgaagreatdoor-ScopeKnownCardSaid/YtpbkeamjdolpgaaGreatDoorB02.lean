/- The walks of strings.Builder inside the printer. The walk of (*strings.Builder).String inside the printer. Plain: which trees are right, and how they are told as text. The walks of the parser's small methods. The walks of slices.Index, slices.Contains at strings, and of tree.reserved. Plain: with fuel enough the parser always comes to an end. -/
import Derived.Test.YtpbkeamjdolpgaaGreatDoorB01
import Derived.Test.YtpbkeamjdolpgaaGreatDoorProg
import Derived.Lib.Builder
import Derived.RegionTactic
import Derived.OneCell
import Derived.Shelf.Strings.Builder1
import Derived.WalkLawsBesides
import Derived.BigQuiet
namespace Go.Proofs.YtpbkeamjdolpgaaGreatDoor
open Go.RowKit Go.Lib Go.Shelf

theorem Tryz.infoBuilder : (Tryz.prog.info? 85).map (·.size) = some 2 := by kernel_rfl
theorem Tryz.liesPrinter : liesAt Tryz.prog Tryz.prog.depth 87 (2 / Tryz.prog.cellsOf 87) 0 85 1 = true := by kernel_rfl
theorem Tryz.infoByte : (Tryz.prog.info? 5).map (fun i => (i.zero, i.size, i.bytes)) = some (some (.int .u8 0), 1, 1) := by kernel_rfl
set_option maxHeartbeats 1000000 in
set_option maxRecDepth 100000 in
theorem copyCheck_used (b : Nat) (w : World) (h0 : w.cell? ⟨b, 0, none⟩ = some (.pointer (some ⟨b, 0, none⟩))) :
    Calls Tryz.prog 126 #[.pointer (some ⟨b, 0, none⟩)] w fun e w' => e = .returned (.tuple #[]) ∧ w = w' := by
  obtain ⟨j, hj, _⟩ := Option.map_eq_some_iff.1 Tryz.infoBuilder
  go_enter Tryz.func126, Tryz.ntmps126
  go_wp2
  rw [Lib.run_neq_ptr_same w _ Tryz.underlying82 hj]
  go_wp2
  go_end0
  exact ⟨rfl, rfl⟩
set_option maxHeartbeats 1000000 in
set_option maxRecDepth 100000 in
theorem copyCheck_fresh (b : Nat) (w : World) (h0 : w.cell? ⟨b, 0, none⟩ = some (.pointer none)) (hsh : w.shape? b = some (87, 2)) (hfz : w.frozen? ⟨b, 0, none⟩ = false) :
    Calls Tryz.prog 126 #[.pointer (some ⟨b, 0, none⟩)] w fun e w' => e = .returned (.tuple #[]) ∧ w' = w.setCell ⟨b, 0, none⟩ (.pointer (some ⟨b, 0, none⟩)) := by
  obtain ⟨j, hj, hjs⟩ := Option.map_eq_some_iff.1 Tryz.infoBuilder
  go_enter Tryz.func126, Tryz.ntmps126
  go_wp2
  rw [Lib.run_to_unsafe w ⟨b, 0, none⟩ Tryz.underlying82 Tryz.underlying141 hj (by rw [hjs]; decide) hsh (Nat.zero_lt_succ 1)]
  simp only [Result.andThen]
  rw [Oper.upon_value]
  go_wp2
  rw [run_callFunc_extern Tryz.func172 (by kernel_rfl) (by kernel_rfl) (by kernel_rfl) (e := Extern.AbiNoEscape.same) (by kernel_rfl)]
  rw [Lib.run_noEscape]
  simp only [Result.andThen]
  rw [Oper.upon_value]
  go_wp2
  rw [Lib.run_from_unsafe w ⟨b, 0, none⟩ Tryz.underlying141 Tryz.underlying82 hj hsh Tryz.liesPrinter]
  simp only [Result.andThen]
  rw [Oper.upon_value]
  go_wp2
  go_end0
  exact ⟨rfl, rfl⟩
/-- append of a string to an own row, and where the row lies then. -/
theorem run_append_str_at {P : Program} (w : World) (base : Nat) (t u ty e : TypeId) (i : TypeInfo) (ht : P.underlying t = some (.slice e)) (hu : P.underlying u = some .string) (hi : P.info? e = some i) (hz : i.zero = some (.int .u8 0))
    (hsize : i.size = 1) (hby : i.bytes = 1) (v : Value) (n : Nat) (xs : List Value) (hown : w.ownsRow base e 1 v n xs) (s : ByteArray)
    (h63 : n + s.size ≤ maxLen) (hbytes : n + s.size ≤ 140737488355328) (hbase : base ≤ w.heap.size) :
    ∃ v' w', (Builtin.append_ #[t, u] ty #[v, .string s]).run P w = .ok v' w' ∧ w'.ownsRow base e 1 v' (n + s.size) (xs ++ strCells s) ∧ w.grownBy w' v.ownBlock ∧ (v'.ownBlock = v.ownBlock ∨ v'.ownBlock = some w.heap.size) := by
  have hsmall : n + s.size ≤ 9223372036854775807 := by simp only [maxLen] at h63; omega
  have hxl : xs.length = n := by simpa using hown.1
  obtain ⟨v', w', hr, h2, h3, h4⟩ := run_append_own_string (P := P) w base t u ty e i ht hu hi hz hsize hby v n xs hown s h63 hbytes hbase
  refine ⟨v', w', hr, h2, h3, ?_⟩
  rcases hown.2 with ⟨rfl, rfl⟩ | ⟨g, cap, cur, rfl, hbg, hg, hnc, hcm, hcs, htake⟩
  · by_cases hm : s.size = 0
    · rw [h4.2 ⟨rfl, hm⟩]
      exact .inl rfl
    · have hr2 := run_append_nil_string (P := P) w t u ty e i (.int .u8 0) ht hu hi hz s (by omega) (by omega) (by rw [hby]; omega)
      rw [hr] at hr2
      simp only [Result.ok.injEq] at hr2
      obtain ⟨rfl, rfl⟩ := hr2
      exact .inr rfl
  · by_cases hroom : n + s.size ≤ cap
    · have hr2 := run_append_room_string (P := P) w t u ty e i ht hu hi hsize g n cap cur hg s hroom (by omega)
      rw [hr] at hr2
      simp only [Result.ok.injEq] at hr2
      obtain ⟨rfl, rfl⟩ := hr2
      exact .inl rfl
    · have holds : ∀ j u, xs[j]? = some u → w.cell? ((⟨g, 0, none⟩ : Addr).add j) = some u := hown.cells (g := g) rfl
      have hr2 := run_append_grow_string (P := P) w t u ty e i (.int .u8 0) ht hu hi hz ⟨g, 0, none⟩ n cap xs (by rw [hsize]; simpa using hxl) holds s (by omega) (by omega) (by rw [hby]; exact growslice_fits (by omega) (by omega))
      rw [hr] at hr2
      simp only [Result.ok.injEq] at hr2
      obtain ⟨rfl, rfl⟩ := hr2
      exact .inr rfl
theorem wpList_append_str_at {P : Program} (w : World) {ops : Array Oper} {rest : List Oper} {o : Oper} {a : Act} {Q : Exit → Act → World → Prop} (hgd : o.guard = none) (sl x : Operand) (t u : TypeId)
    (ho : o.op = .call { callee := .builtin .append, args := #[sl, x], argTypes := #[t, u] })
    (base : Nat) (e : TypeId) (i : TypeInfo) (ht : P.underlying t = some (.slice e)) (hu : P.underlying u = some .string) (hi : P.info? e = some i) (hz : i.zero = some (.int .u8 0))
    (hsize : i.size = 1) (hby : i.bytes = 1) (v : Value) (n : Nat) (xs : List Value) (hs : a.eval sl = v) (hown : w.ownsRow base e 1 v n xs) (s : ByteArray) (hx : a.eval x = .string s)
    (h63 : n + s.size ≤ maxLen) (hbytes : n + s.size ≤ 140737488355328) (hbase : base ≤ w.heap.size)
    (h : ∀ v' w', w'.ownsRow base e 1 v' (n + s.size) (xs ++ strCells s) → w.grownBy w' v.ownBlock → (v'.ownBlock = v.ownBlock ∨ v'.ownBlock = some w.heap.size) → wpList P ops Q rest (a.put o.dst v') w') : wpList P ops Q (o :: rest) a w := by
  refine wpList_plain hgd fun K hK => ?_
  obtain ⟨v', w', hr, h2, h3, h4⟩ := run_append_str_at (P := P) w base t u o.type e i ht hu hi hz hsize hby v n xs hown s h63 hbytes hbase
  unfold Oper.wp execOp
  simp only [ho, resolve, invoke, builtin, Sem.run_bind, Sem.run_pure, Result.andThen_ok, List.map_toArray, List.map_cons, List.map_nil, hs, hx, hr]
  exact hK _ _ (h v' w' h2 h3 h4)

/-- A printer that holds these bytes; g: the block of its buffer. -/
def PrSt (b : Nat) (l : List UInt8) (w : World) (g : Option Nat) : Prop :=
  ∃ p v, (p = .pointer none ∨ p = .pointer (some ⟨b, 0, none⟩)) ∧ w.heap[b]? = some (.cells #[p, v] 87 (0, 0)) ∧ w.ownsRow (b + 1) 5 1 v l.length (byteCells l) ∧ v.ownBlock = g
/-- Of what was there only the printer and its buffer may have turned. -/
structure PrOw (b : Nat) (g g' : Option Nat) (w w' : World) : Prop where
  os : w'.os = w.os
  tape : w'.tape = w.tape
  output : w'.output = w.output
  size : w.heap.size ≤ w'.heap.size
  block : ∀ k, k < w.heap.size → k ≠ b → some k ≠ g → w'.heap[k]? = w.heap[k]?
  lies : g' = g ∨ ∀ k, g' = some k → w.heap.size ≤ k
theorem PrOw.refl (b : Nat) (g : Option Nat) (w : World) : PrOw b g g w w := ⟨rfl, rfl, rfl, Nat.le_refl _, fun _ _ _ _ => rfl, .inl rfl⟩
theorem PrOw.trans {b : Nat} {g g1 g2 : Option Nat} {w w1 w2 : World} (h : PrOw b g g1 w w1) (k : PrOw b g1 g2 w1 w2) : PrOw b g g2 w w2 := by
  refine ⟨k.os.trans h.os, k.tape.trans h.tape, k.output.trans h.output, Nat.le_trans h.size k.size, fun i hi hb hg => ?_, ?_⟩
  · refine (k.block i (Nat.lt_of_lt_of_le hi h.size) hb ?_).trans (h.block i hi hb hg)
    rcases h.lies with e | e
    · rw [e]; exact hg
    · intro e2
      have := e i e2.symm
      omega
  · have hs := h.size
    rcases k.lies with e | e
    · rw [e]; exact h.lies
    · exact .inr fun i hi => by have := e i hi; omega
theorem PrOw.below {b : Nat} {g g1 : Option Nat} {w w1 w2 : World} (h : PrOw b g g1 w w1) (k : Below w1.heap.size w1 w2) : PrOw b g g1 w w2 :=
  ⟨k.os.trans h.os, k.tape.trans h.tape, k.output.trans h.output, Nat.le_trans h.size k.size, fun i hi hb hg => (k.block i (Nat.lt_of_lt_of_le hi h.size)).trans (h.block i hi hb hg), h.lies⟩
theorem PrOw.of_below {b : Nat} {g : Option Nat} {w w1 : World} (k : Below w.heap.size w w1) : PrOw b g g w w1 := (PrOw.refl b g w).below k
theorem PrSt.lt {b : Nat} {l : List UInt8} {w : World} {g : Option Nat} (h : PrSt b l w g) : b < w.heap.size := by
  obtain ⟨p, v, _, h2, _⟩ := h
  exact (Array.getElem?_eq_some_iff.1 h2).1
theorem PrSt.buf {b : Nat} {l : List UInt8} {w : World} {g : Option Nat} (h : PrSt b l w g) {k : Nat} (hk : g = some k) : b < k ∧ k < w.heap.size := by
  obtain ⟨p, v, _, _, h3, h4⟩ := h
  have := h3.lt k (h4.trans hk)
  omega
theorem PrSt.below {b : Nat} {l : List UInt8} {w w' : World} {g : Option Nat} (h : PrSt b l w g) (hb : Below w.heap.size w w') : PrSt b l w' g := by
  have hl := h.lt
  obtain ⟨p, v, h1, h2, h3, h4⟩ := h
  exact ⟨p, v, h1, (hb.block b hl).trans h2, own_below h3 hb, h4⟩
/-- A walk of a function, as both a call and a deferred call want it. -/
def WpOf (fn : Func) (args : Array Value) (w : World) (R : Ending → World → Prop) : Prop :=
  ∃ c, fn.body = some c ∧ c.wp Tryz.prog (bodyPost Tryz.prog fn R) { tmps := args ++ Array.replicate (fn.ntmps - args.size) undef, defers := [] } w
theorem byte_app (l s : List UInt8) : byteCells l ++ strCells ⟨s.toArray⟩ = byteCells (l ++ s) := by
  rw [show strCells ⟨s.toArray⟩ = byteCells s from rfl]
  simp [byteCells]
set_option maxHeartbeats 4000000 in
set_option maxRecDepth 100000 in
theorem write_wp (b : Nat) (l s : List UInt8) (g : Option Nat) (w : World) (h : PrSt b l w g) (hlen : l.length + s.length ≤ 2 ^ 46) :
    WpOf Tryz.f67 #[.pointer (some ⟨b, 0, none⟩), .string ⟨s.toArray⟩] w fun e w' => e = .returned (.tuple #[.int .i64 s.length, .nilIface]) ∧ ∃ g', PrSt b (l ++ s) w' g' ∧ PrOw b g g' w w' := by
  have hlt := h.lt
  obtain ⟨i0, hi, hz0, hz1, hz2⟩ := info_parts Tryz.infoByte
  obtain ⟨p, v, hp, hbk, hown, hg⟩ := h
  have cc : Calls Tryz.prog 126 #[.pointer (some ⟨b, 0, none⟩)] w fun e w1 => e = .returned (.tuple #[]) ∧ w1.heap[b]? = some (.cells #[.pointer (some ⟨b, 0, none⟩), v] 87 (0, 0)) ∧ w1.ownsRow (b + 1) 5 1 v l.length (byteCells l) ∧ PrOw b g g w w1 := by
    have c0 : w.cell? ⟨b, 0, none⟩ = some p := by simp [World.cell?, hbk]
    rcases hp with rfl | rfl
    · refine (copyCheck_fresh b w c0 (by simp [World.shape?, hbk]) (by simp [World.frozen?, hbk])).mono ?_
      rintro e w1 ⟨rfl, rfl⟩
      refine ⟨rfl, by simp [World.setCell, Array.getElem?_modify, hbk], ⟨hown.1, ?_⟩, ⟨rfl, rfl, rfl, by simp [World.setCell], fun k _ hn _ => Below.heap_setCell _ _ _ _ hn, .inl rfl⟩⟩
      rcases hown.2 with h1 | ⟨g', cap, cur, h1, h2, h3, h4⟩
      · exact .inl h1
      · exact .inr ⟨g', cap, cur, h1, h2, (Below.heap_setCell _ _ _ _ (show g' ≠ b by omega)).trans h3, h4⟩
    · refine (copyCheck_used b w c0).mono ?_
      rintro e w1 ⟨rfl, rfl⟩
      exact ⟨rfl, hbk, hown, PrOw.refl _ _ _⟩
  have HG := Lib.hid hg
  clear hbk hown hp hg
  refine ⟨_, rfl, ?_⟩
  simp only [Tryz.ntmps67, List.size_toArray, List.length_cons, List.length_nil, Nat.reduceAdd, Nat.reduceSub, Array.replicate_succ,
     Array.replicate_zero, List.push_toArray, List.append_toArray, List.nil_append, List.cons_append]
  go_wp2_with fail
  refine cc.mono ?_
  clear cc
  rintro e w1 ⟨rfl, hbk, hown, how⟩
  have c1 : w1.cell? ⟨b, 1, none⟩ = some v := by simp [World.cell?, hbk]
  have f1 : w1.frozen? ⟨b, 1, none⟩ = false := by simp [World.frozen?, hbk]
  have hl1 : b < w1.heap.size := (Array.getElem?_eq_some_iff.1 hbk).1
  have HBK := Lib.hid hbk
  have HOW := Lib.hid how
  have HOWN := Lib.hid hown
  have ess : (⟨s.toArray⟩ : ByteArray).size = s.length := by show s.toArray.size = _; simp
  have HES := Lib.hid ess
  clear hbk how hown ess
  go_wp2_with (at_builtin; refine wpList_append_str_at _ rfl _ _ 83 9 rfl (b + 1) 5 i0 Tryz.underlying83 Tryz.underlying9 hi hz0 hz1 hz2 _ _ _ rfl HOWN.out ⟨s.toArray⟩ rfl ?c3 ?c4 ?c5 ?_)
  case c3 => rw [HES.out]; unfold maxLen; omega
  case c4 => rw [HES.out]; omega
  case c5 => omega
  intro v' w2 hown' hgrow hat
  have hvb : v.ownBlock ≠ some b := fun e => by have := HOWN.out.lt b e; omega
  have hb2 : w2.heap[b]? = some (.cells #[.pointer (some ⟨b, 0, none⟩), v] 87 (0, 0)) := (hgrow.block b hl1 (fun e => hvb e.symm)).trans HBK.out
  have d1 : w2.cell? ⟨b, 1, none⟩ = some v := by simp [World.cell?, hb2]
  have d2 : w2.frozen? ⟨b, 1, none⟩ = false := by simp [World.frozen?, hb2]
  obtain ⟨ao, n', cap, rfl⟩ : ∃ ao n' cap, v' = .slice ao n' cap := by
    rcases hown'.2 with ⟨hv, _⟩ | ⟨g, cap, cur, hv, _⟩
    · exact ⟨_, _, _, hv⟩
    · exact ⟨_, _, _, hv⟩
  have HB2 := Lib.hid hb2
  have HO' := Lib.hid hown'
  have HGR := Lib.hid hgrow
  have HAT := Lib.hid hat
  clear hb2 hown' hgrow hat hvb
  go_wp2
  go_ret2
  have hg := HG.out
  have hgrow := HGR.out
  refine ⟨rfl, (Value.slice ao n' cap).ownBlock, ⟨.pointer (some ⟨b, 0, none⟩), .slice ao n' cap, .inr rfl, ?_, ⟨?_, ?_⟩, rfl⟩, ?_⟩
  · have := HB2.out
    simp [World.setCell, Array.getElem?_modify, this]
  · simp [byteCells_length]
  · have ho := HO'.out
    rw [byte_app] at ho
    rw [List.length_append]
    rcases ho.2 with h1 | ⟨g', cap', cur, h1, h2, h3, h4⟩
    · exact .inl h1
    · exact .inr ⟨g', cap', cur, h1, h2, (Below.heap_setCell _ _ _ _ (show g' ≠ b by omega)).trans h3, h4⟩
  · refine HOW.out.trans ⟨hgrow.os, hgrow.tape, hgrow.output, by simpa [World.setCell] using hgrow.size, fun k hk hn hkg => ?_, ?_⟩
    · exact (Below.heap_setCell _ _ _ _ hn).trans (hgrow.block k hk (by rw [hg]; exact hkg))
    · rcases HAT.out with e | e
      · exact .inl (e.trans hg)
      · exact .inr fun k hk => by rw [e] at hk; cases hk; exact Nat.le_refl _
theorem write_any (b : Nat) (l s : List UInt8) (g : Option Nat) (w : World) (h : PrSt b l w g) (hlen : l.length + s.length ≤ 2 ^ 46) :
    Calls Tryz.prog 67 #[.pointer (some ⟨b, 0, none⟩), .string ⟨s.toArray⟩] w fun e w' => e = .returned (.tuple #[.int .i64 s.length, .nilIface]) ∧ ∃ g', PrSt b (l ++ s) w' g' ∧ PrOw b g g' w w' := by
  obtain ⟨c, hc, hw⟩ := write_wp b l s g w h hlen
  exact calls_of_wp Tryz.func67 hc hw
theorem write_defer (b : Nat) (l s : List UInt8) (g : Option Nat) (w : World) (h : PrSt b l w g) (hlen : l.length + s.length ≤ 2 ^ 46) (u : FrameMode) :
    CallsD Tryz.prog 67 #[.pointer (some ⟨b, 0, none⟩), .string ⟨s.toArray⟩] u w fun e u' w' => u' = u ∧ e = .returned (.tuple #[.int .i64 s.length, .nilIface]) ∧ ∃ g', PrSt b (l ++ s) w' g' ∧ PrOw b g g' w w' := by
  obtain ⟨c, hc, hw⟩ := write_wp b l s g w h hlen
  exact callsD_of_wp Tryz.func67 hc hw
end Go.Proofs.YtpbkeamjdolpgaaGreatDoor
namespace Go.Proofs.YtpbkeamjdolpgaaGreatDoor
open Go.RowKit Go.Lib Go.Shelf

section
variable (b : Nat) (w : World) (p : Value)
theorem us_none (W : World) (q : Option Addr) : (Builtin.unsafeString_ #[135, 3] 9 #[.pointer q, .int .i64 0]).run Tryz.prog W = .ok (.string .empty) W := Lib.run_unsafeString_none W _ _ _ q
set_option maxHeartbeats 2000000 in
set_option maxRecDepth 100000 in
theorem str_nil (hbk : w.heap[b]? = some (.cells #[p, .slice none 0 0] 87 (0, 0))) :
    Calls Tryz.prog 54 #[.pointer (some ⟨b, 0, none⟩)] w fun e w' => e = .returned (.string ⟨#[]⟩) ∧ Below w.heap.size w w' := by
  have hUS := us_none
  have c1 : w.drew.cell? ⟨b, 1, none⟩ = some (.slice none 0 0) := by
    have : w.drew.heap[b]? = some (.cells #[p, .slice none 0 0] 87 (0, 0)) := hbk
    rw [Lib.cell_of_heap this]; rfl
  have hSD : (Builtin.unsafeSliceData_ #[83] 135 #[.slice none 0 0]).run Tryz.prog w.drew = .ok (.pointer none) w.drew := rfl
  go_enter Tryz.func54, Tryz.ntmps54
  go_wp2
  go_region
  all_goals (go_wp2; go_ret; exact ⟨rfl, Below.drew (Below.refl _ w)⟩)
set_option maxHeartbeats 2000000 in
set_option maxRecDepth 100000 in
theorem str_noroom (g : Nat) (cur : Array Value) (hbk : w.heap[b]? = some (.cells #[p, .slice (some ⟨g, 0, none⟩) 0 0] 87 (0, 0))) (hg : w.heap[g]? = some (.cells cur 5 (0, 0))) :
    Calls Tryz.prog 54 #[.pointer (some ⟨b, 0, none⟩)] w fun e w' => e = .returned (.string ⟨#[]⟩) ∧ Below w.heap.size w w' := by
  have hUS := us_none
  have hlt : b < w.heap.size := (Array.getElem?_eq_some_iff.1 hbk).1
  have c1 : w.drew.cell? ⟨b, 1, none⟩ = some (.slice (some ⟨g, 0, none⟩) 0 0) := by
    have : w.drew.heap[b]? = some (.cells #[p, .slice (some ⟨g, 0, none⟩) 0 0] 87 (0, 0)) := hbk
    rw [Lib.cell_of_heap this]; rfl
  have hSD : (Builtin.unsafeSliceData_ #[83] 135 #[.slice (some ⟨g, 0, none⟩) 0 0]).run Tryz.prog w.drew = .ok (.pointer (some ⟨w.drew.heap.size, 0, none⟩)) (w.drew.alloc (.view ⟨g, 0, none⟩ 5)) :=
    Lib.run_unsafeSliceData_zero w.drew _ _ 5 Tryz.underlying135 ⟨g, 0, none⟩ 0 (5, cur.size) (by have hg' : w.drew.heap[g]? = some (.cells cur 5 (0, 0)) := hg; simp [World.shape?, hg'])
  have c2 : (w.drew.alloc (.view ⟨g, 0, none⟩ 5)).cell? ⟨b, 1, none⟩ = some (.slice (some ⟨g, 0, none⟩) 0 0) := by
    have : (w.drew.alloc (.view ⟨g, 0, none⟩ 5)).heap[b]? = _ := (Lib.alloc_old w.drew _ b hlt).trans hbk
    rw [Lib.cell_of_heap this]; rfl
  have c3 : (w.alloc (.view ⟨g, 0, none⟩ 5)).drew.cell? ⟨b, 1, none⟩ = some (.slice (some ⟨g, 0, none⟩) 0 0) := c2
  have c0 : w.cell? ⟨b, 1, none⟩ = some (.slice (some ⟨g, 0, none⟩) 0 0) := c1
  go_enter Tryz.func54, Tryz.ntmps54
  go_wp2
  go_region
  all_goals (go_wp2; go_ret; exact ⟨rfl, (Below.drew (Below.refl _ w)).alloc (Nat.le_refl _) _⟩)
set_option maxHeartbeats 2000000 in
set_option maxRecDepth 100000 in
theorem str_room (g cap : Nat) (hc0 : cap ≠ 0) (hbk : w.heap[b]? = some (.cells #[p, .slice (some ⟨g, 0, none⟩) 0 cap] 87 (0, 0))) :
    Calls Tryz.prog 54 #[.pointer (some ⟨b, 0, none⟩)] w fun e w' => e = .returned (.string ⟨#[]⟩) ∧ Below w.heap.size w w' := by
  have hUS := us_none
  have c1 : w.drew.cell? ⟨b, 1, none⟩ = some (.slice (some ⟨g, 0, none⟩) 0 cap) := by
    have : w.drew.heap[b]? = some (.cells #[p, .slice (some ⟨g, 0, none⟩) 0 cap] 87 (0, 0)) := hbk
    rw [Lib.cell_of_heap this]; rfl
  have hSD : (Builtin.unsafeSliceData_ #[83] 135 #[.slice (some ⟨g, 0, none⟩) 0 cap]).run Tryz.prog w.drew = .ok (.pointer (some ⟨g, 0, none⟩)) w.drew :=
    Lib.run_unsafeSliceData_row _ _ _ _ _ _ hc0
  clear hc0
  go_enter Tryz.func54, Tryz.ntmps54
  go_wp2
  go_region
  all_goals (go_wp2; go_ret; exact ⟨rfl, Below.drew (Below.refl _ w)⟩)
set_option maxHeartbeats 2000000 in
set_option maxRecDepth 100000 in
theorem str_some (B g cap : Nat) (cur : Array Value) (l : List UInt8) (h0 : l ≠ []) (hB : B ≤ g) (hbk : w.heap[b]? = some (.cells #[p, .slice (some ⟨g, 0, none⟩) l.length cap] 87 (0, 0))) (hg : w.heap[g]? = some (.cells cur 5 (0, 0)))
    (hnc : l.length ≤ cap) (hcm : cap ≤ maxLen) (hcs : cur.size = cap * 1) (hcell : ∀ j x, l[j]? = some x → w.cell? ((⟨g, 0, none⟩ : Addr).add j) = some (.int .u8 x.toNat)) :
    Calls Tryz.prog 54 #[.pointer (some ⟨b, 0, none⟩)] w fun e w' => e = .returned (.string ⟨l.toArray⟩) ∧ Below B w w' := by
  have hl0 : l.length ≠ 0 := by simpa using h0
  have c1 : w.drew.cell? ⟨b, 1, none⟩ = some (.slice (some ⟨g, 0, none⟩) l.length cap) := by
    have : w.drew.heap[b]? = some (.cells #[p, .slice (some ⟨g, 0, none⟩) l.length cap] 87 (0, 0)) := hbk
    rw [Lib.cell_of_heap this]; rfl
  have hSD : (Builtin.unsafeSliceData_ #[83] 135 #[.slice (some ⟨g, 0, none⟩) l.length cap]).run Tryz.prog w.drew = .ok (.pointer (some ⟨g, 0, none⟩)) w.drew :=
    Lib.run_unsafeSliceData_row _ _ _ _ _ _ (by omega)
  have hUS : (Builtin.unsafeString_ #[135, 3] 9 #[.pointer (some ⟨g, 0, none⟩), .int .i64 l.length]).run Tryz.prog w.drew = .ok (.string ⟨l.toArray⟩) (w.drew.freeze ⟨g, 0, none⟩ l.length) :=
    Lib.run_unsafeString_row w.drew 135 3 9 5 Tryz.underlying135 (by kernel_rfl) g cur.size (by have hg' : w.drew.heap[g]? = some (.cells cur 5 (0, 0)) := hg; simp [World.shape?, hg']) l h0 (by omega) (by unfold maxLen at hcm; omega) hcell
  clear hcell hg
  go_enter Tryz.func54, Tryz.ntmps54
  go_wp2
  go_region
  all_goals (go_wp2; go_ret; exact ⟨rfl, Lib.below_freeze (Below.drew (Below.refl B w)) (p := ⟨g, 0, none⟩) hB _⟩)
end
/-- What the printer tells of its bytes. -/
theorem string_any (b : Nat) (l : List UInt8) (w : World) (g : Option Nat) (h : PrSt b l w g) :
    Calls Tryz.prog 54 #[.pointer (some ⟨b, 0, none⟩)] w fun e w' => e = .returned (.string ⟨l.toArray⟩) ∧ Below b w w' := by
  have hlt := h.lt
  obtain ⟨p, v, _, hbk, hown, _⟩ := h
  cases l with
  | nil =>
    rcases hown.2 with ⟨rfl, _⟩ | ⟨g, cap, cur, rfl, hbg, hg, _, _, _, _⟩
    · refine (str_nil b w p hbk).mono ?_
      rintro e w' ⟨rfl, hb⟩
      exact ⟨rfl, hb.mono (by omega)⟩
    · by_cases hc0 : cap = 0
      · subst hc0
        refine (str_noroom b w p g cur hbk hg).mono ?_
        rintro e w' ⟨rfl, hb⟩
        exact ⟨rfl, hb.mono (by omega)⟩
      · refine (str_room b w p g cap hc0 hbk).mono ?_
        rintro e w' ⟨rfl, hb⟩
        exact ⟨rfl, hb.mono (by omega)⟩
  | cons x r =>
    rcases hown.2 with ⟨_, hz⟩ | ⟨g, cap, cur, rfl, hbg, hg, hnc, hcm, hcs, htake⟩
    · simp at hz
    · exact str_some b w p b g cap cur (x :: r) (by simp) (by omega) hbk hg hnc hcm hcs fun j u hj => hown.cells (g := g) rfl j (.int .u8 u.toNat) (by rw [Lib.byteCells, List.getElem?_map, hj]; rfl)
end Go.Proofs.YtpbkeamjdolpgaaGreatDoor
namespace Go.Proofs.YtpbkeamjdolpgaaGreatDoor

mutual
/-- The first node, in the order of a walk, that is deeper than may be. -/
def deepN : Nd → Nat → Option Nd
  | .mk _ _ kids _, d => deepL kids (d + 1)
def deepL : List Nd → Nat → Option Nd
  | [], _ => none
  | x :: r, d => if 64 < d then some x else match deepN x d with
    | some y => some y
    | none => deepL r d
end

def Nd.kind : Nd → Int | .mk k _ _ _ => k
def Nd.name : Nd → List UInt8 | .mk _ n _ _ => n
def Nd.kids : Nd → List Nd | .mk _ _ l _ => l
def Nd.pos : Nd → Int | .mk _ _ _ p => p

/-- The level of a sign of two; 0: it is none. -/
def levelS (s : List UInt8) : Nat :=
  if s ∈ signsK 0 then 1 else if s ∈ signsK 1 then 2 else if s ∈ signsK 2 then 3 else if s ∈ signsK 3 then 4 else if s ∈ signsK 4 then 5 else 0
/-- May a name stand? -/
def plainR (s : List UInt8) : Bool := decide (0 < nameL s) && decide (nameL s = s.length) && !resv s
/-- Is it the text of one number? -/
def numR (s : List UInt8) : Bool := match tokensL s with
  | .ok [t] => decide (t.1 = 1) && decide (t.2.1 = s)
  | _ => false

mutual
def exR : Nd → Bool
  | .mk kind name kids _ =>
    if kind = 9 then numR name && kids.isEmpty
    else if kind = 10 then plainR name && kids.isEmpty
    else if kind = 11 then name.isEmpty && exsR kids
    else if kind = 12 then (if kids.length = 1 then (decide (name = [45]) || decide (name = [33])) && exsR kids else decide (0 < levelS name) && decide (kids.length = 2) && exsR kids)
    else if kind = 13 then plainR name && shR [8] kids
    else if kind = 14 then name.isEmpty && decide (kids.length = 2) && exsR kids
    else if kind = 15 then name.isEmpty && decide (kids.length = 3) && exsR kids
    else false
def exsR : List Nd → Bool
  | [] => true
  | x :: r => exR x && exsR r
def stR : Nd → Bool
  | .mk kind name kids _ =>
    if kind = 6 then name.isEmpty && shR (if kids.length = 2 then [-1, 0] else [-1, 0, 0]) kids
    else plainR name &&
      if kind = 1 then shR [-1] kids
      else if kind = 2 then shR [4, 0] kids
      else if kind = 3 then shR [4, -1] kids
      else if kind = 5 then shR [-1, 0] kids
      else if kind = 7 then shR (if kids.length = 1 then [8] else [8, 0]) kids
      else false
def stsR : List Nd → Bool
  | [] => true
  | x :: r => stR x && stsR r
/-- Parameters: names. -/
def parsR : List Nd → Bool
  | [] => true
  | x :: r => (decide (x.kind = 10) && exR x) && parsR r
/-- A block, parameters, arguments. -/
def partR : Nd → Bool
  | .mk kind name kids _ => name.isEmpty && (if kind = 0 then stsR kids else if kind = 4 then parsR kids else exsR kids)
/-- Nodes of these kinds, one after the other (-1: an expression). -/
def shR : List Int → List Nd → Bool
  | [], [] => true
  | w :: ws, x :: r => (if w < 0 then exR x else decide (x.kind = w) && partR x) && shR ws r
  | _, _ => false
end

/-- The error's number for a tree. -/
def checkR (l : List Nd) : Int := match deepL l 1 with
  | some _ => 3
  | none => if stsR l then 0 else 290

/-- How tightly an expression's outermost part binds. -/
def tightR : Nd → Nat
  | .mk k name kids _ => if k = 15 then 0 else if k = 12 then (if kids.length = 2 then levelS name else 6) else if k = 14 then 7 else 8
/-- Texts with commas between. -/
def joinC : List (List UInt8) → List UInt8
  | [] => []
  | x :: r => x ++ r.flatMap fun y => [44, 32] ++ y
def parT (b : Bool) (s : List UInt8) : List UInt8 := if b then [40] ++ s ++ [41] else s
/-- The levels that are asked of what stands below an expression. -/
def asksR (kind : Int) (t n : Nat) : List Nat :=
  if kind = 15 then [1, 0, 0] else if kind = 12 then (if n = 1 then [6] else [if t = 3 then 4 else t, t + 1]) else [7, 0]
/-- An expression's text, but for parentheses, of the texts of what stands below it. -/
def bodyT (kind : Int) (name : List UInt8) (below row grand : List (List UInt8)) : List UInt8 :=
  if kind = 11 then [91] ++ joinC row ++ [93]
  else if kind = 13 then name ++ [40] ++ joinC grand ++ [41]
  else if kind = 15 ∨ kind = 12 ∨ kind = 14 then (match below with
    | [a, b, c] => a ++ [32, 63, 32] ++ b ++ [32, 58, 32] ++ c
    | [a] => name ++ a
    | [a, b] => if kind = 14 then a ++ [91] ++ b ++ [93] else a ++ ([32] ++ name ++ [32]) ++ b
    | _ => [])
  else name
mutual
/-- An expression's text, in parentheses where it binds less tightly than is asked. -/
def exT : Nd → Nat → List UInt8
  | .mk kind name kids pos, asked =>
    parT (decide (tightR (.mk kind name kids pos) < asked)) (bodyT kind name (exTs kids (asksR kind (tightR (.mk kind name kids pos)) kids.length)) (ex0s kids) (grT kids))
def exTs : List Nd → List Nat → List (List UInt8)
  | x :: r, a :: bs => exT x a :: exTs r bs
  | _, _ => []
def ex0s : List Nd → List (List UInt8)
  | [] => []
  | x :: r => exT x 0 :: ex0s r
/-- The texts of what stands below the first one. -/
def grT : List Nd → List (List UInt8)
  | [] => []
  | (.mk _ _ kids _) :: _ => ex0s kids
end
def ex0At (l : List Nd) (i : Nat) : List UInt8 := (ex0s l)[i]?.getD []
def rowT (l : List Nd) : List UInt8 := joinC (grT l)
mutual
def stT : Nd → List UInt8 → List UInt8
  | .mk kind name kids _, pad =>
    if kind = 1 then name ++ [32, 61, 32] ++ ex0At kids 0 ++ [59]
    else if kind = 2 then (wModule ++ [32] ++ name ++ [40]) ++ rowT kids ++ [41] ++ (blksT kids pad)[1]?.getD []
    else if kind = 3 then (wFunction ++ [32] ++ name ++ [40]) ++ rowT kids ++ [41, 32, 61, 32] ++ ex0At kids 1 ++ [59]
    else if kind = 5 then (wFor ++ [32, 40] ++ name ++ [32, 61, 32]) ++ ex0At kids 0 ++ [41] ++ (blksT kids pad)[1]?.getD []
    else if kind = 6 then (wIf ++ [32, 40]) ++ ex0At kids 0 ++ [41] ++ (blksT kids pad)[1]?.getD [] ++ (if kids.length = 3 then ([32] ++ wElse) ++ (blksT kids pad)[2]?.getD [] else [])
    else (name ++ [40]) ++ rowT kids ++ [41] ++ (if kids.length = 2 then (blksT kids pad)[1]?.getD [] else [59])
def blksT : List Nd → List UInt8 → List (List UInt8)
  | [], _ => []
  | (.mk _ _ kids _) :: r, pad => ([32, 123, 10] ++ stsT kids (pad ++ [32, 32]) ++ (pad ++ [125])) :: blksT r pad
def stsT : List Nd → List UInt8 → List UInt8
  | [], _ => []
  | x :: r, pad => pad ++ stT x pad ++ [10] ++ stsT r pad
end
/-- What Print tells. -/
def printR (l : List Nd) : List UInt8 × Int :=
  if checkR l = 0 then (match tokensL (stsT l []) with | .ok _ => (stsT l [], 0) | .error _ => ([], 3)) else ([], checkR l)

mutual
/-- Whether two trees are the same but for places. -/
def sameN : Nd → Nd → Bool
  | .mk k n l _, .mk k' n' l' _ => decide (k = k') && decide (n = n') && sameL l l'
def sameL : List Nd → List Nd → Bool
  | [], [] => true
  | x :: r, y :: r' => sameN x y && sameL r r'
  | _, _ => false
end
mutual
/-- How many nodes. -/
def szN : Nd → Nat
  | .mk _ _ kids _ => szL kids + 1
def szL : List Nd → Nat
  | [] => 0
  | x :: r => szN x + szL r
end
theorem szL_at : ∀ {l : List Nd} {i : Nat} {x : Nd}, l[i]? = some x → szN x ≤ szL l
  | [], i, x, hi => by simp at hi
  | u :: r, 0, x, hi => by
    simp at hi
    subst hi
    exact Nat.le_add_right _ _
  | u :: r, i + 1, x, hi => Nat.le_trans (szL_at (l := r) (i := i) (by simpa using hi)) (Nat.le_add_left _ _)
theorem kids_lt {l : List Nd} {i : Nat} {k : Int} {n : List UInt8} {kids : List Nd} {p : Int} (h : l[i]? = some (.mk k n kids p)) : szL kids < szL l := szL_at h
end Go.Proofs.YtpbkeamjdolpgaaGreatDoor
namespace Go.Proofs.YtpbkeamjdolpgaaGreatDoor
open Go.RowKit Go.Lib

theorem ret_node {R : Ending → World → Prop} {fn : Func} {p : Tmp} (hr : fn.results = #[.cell p 53]) {a : Act} {w : World} {g : Nat} {v0 v1 v2 v3 : Value} (hp : a.tmps.getD p undef = .pointer (some ⟨g, 0, none⟩)) (hd : a.defers = [])
    (c0 : w.cell? ⟨g, 0, none⟩ = some v0) (c1 : w.cell? ⟨g, 1, none⟩ = some v1) (c2 : w.cell? ⟨g, 2, none⟩ = some v2) (c3 : w.cell? ⟨g, 3, none⟩ = some v3) (h : R (.returned (.agg #[v0, v1, v2, v3])) w) : bodyPost Tryz.prog fn R .ret a w := by
  have hp' : a.tmps[p]?.getD undef = .pointer (some ⟨g, 0, none⟩) := by simpa using hp
  exact bodyPost_ret (v := .agg #[v0, v1, v2, v3]) (by simp [results, hr, hp', go_sem, c0, c1, c2, c3]) hd h
theorem ret_tok {R : Ending → World → Prop} {fn : Func} {p : Tmp} (hr : fn.results = #[.cell p 46]) {a : Act} {w : World} {g : Nat} {v0 v1 v2 : Value} (hp : a.tmps.getD p undef = .pointer (some ⟨g, 0, none⟩)) (hd : a.defers = [])
    (c0 : w.cell? ⟨g, 0, none⟩ = some v0) (c1 : w.cell? ⟨g, 1, none⟩ = some v1) (c2 : w.cell? ⟨g, 2, none⟩ = some v2) (h : R (.returned (.agg #[v0, v1, v2])) w) : bodyPost Tryz.prog fn R .ret a w := by
  have hp' : a.tmps[p]?.getD undef = .pointer (some ⟨g, 0, none⟩) := by simpa using hp
  exact bodyPost_ret (v := .agg #[v0, v1, v2]) (by simp [results, hr, hp', go_sem, c0, c1, c2]) hd h

set_option maxHeartbeats 4000000 in
set_option maxRecDepth 100000 in
/-- tree.token. -/
theorem token_any (C : Ctx) (p : Nat) (w : World) (h : PSt C w p) :
    Calls Tryz.prog 102 #[.pointer (some ⟨C.pb, 0, none⟩)] w fun e w' => e = .returned (.agg #[.int .i64 (kindT C.ts p), .string ⟨(textT C.ts p).toArray⟩, .int .i64 (placeT C.ts C.s.size p)]) ∧ Below w.heap.size w w' := by
  obtain ⟨c0, c1, c2, _⟩ := h.cells
  have hpb := h.lt
  by_cases hp : p < C.ts.length
  · obtain ⟨t, ht⟩ : ∃ t, C.ts[p]? = some t := ⟨C.ts[p], List.getElem?_eq_getElem hp⟩
    obtain ⟨g, hx, k0, k1, k2⟩ := h.row p t ht
    rw [hx] at c1
    have hl := h.len
    have e1 : kindT C.ts p = t.1 := by unfold kindT; rw [ht]
    have e2 : textT C.ts p = t.2.1 := by unfold textT; rw [ht]
    have e3 : placeT C.ts C.s.size p = t.2.2 := by unfold placeT; rw [ht]
    rw [e1, e2, e3]
    have a0 : ∀ o, (w.alloc o).cell? ⟨C.pb, 0, none⟩ = some (.string C.s) := fun o => al_cell c0 o
    have a1 : ∀ o, (w.alloc o).cell? ⟨C.pb, 1, none⟩ = some (.slice (some ⟨g, 0, none⟩) C.ts.length C.c) := fun o => al_cell c1 o
    have a2 : ∀ o, (w.alloc o).cell? ⟨C.pb, 2, none⟩ = some (.int .i64 p) := fun o => al_cell c2 o
    have b0 : ∀ o, (w.alloc o).cell? ⟨g, p * 3, none⟩ = some (.int .i64 t.1) := fun o => al_cell k0 o
    have b1 : ∀ o, (w.alloc o).cell? ⟨g, p * 3 + 1, none⟩ = some (.string ⟨t.2.1.toArray⟩) := fun o => al_cell k1 o
    have b2 : ∀ o, (w.alloc o).cell? ⟨g, p * 3 + 2, none⟩ = some (.int .i64 t.2.2) := fun o => al_cell k2 o
    obtain ⟨n, hn⟩ : ∃ n, C.ts.length = n := ⟨_, rfl⟩
    rw [hn] at a1 hp hl
    have Q : decide ((p : Int) < (n : Int)) = true := by simp; omega
    clear h ht hx e1 e2 e3 c0 c1 c2 k0 k1 k2 hn
    go_enter Tryz.func102, Tryz.ntmps102
    go_wp2
    go_quiet (fail)
    go_wp2
    go_region
    go_wp2
    refine ret_tok rfl rfl rfl (by simp [go_sem]) (by simp [go_sem]) (by simp [go_sem]) ⟨rfl, ?_⟩
    exact ((((bdn ((Below.refl _ _).alloc (Nat.le_refl _) _) _).setCell (Nat.le_refl _) _).setCell (Nat.le_refl _) _).setCell (Nat.le_refl _) _)
  · have hnone : C.ts[p]? = none := List.getElem?_eq_none (by omega)
    have e1 : kindT C.ts p = -1 := by unfold kindT; rw [hnone]
    have e2 : textT C.ts p = [] := by unfold textT; rw [hnone]
    have e3 : placeT C.ts C.s.size p = C.s.size := by unfold placeT; rw [hnone]
    rw [e1, e2, e3]
    have a0 : ∀ o, (w.alloc o).cell? ⟨C.pb, 0, none⟩ = some (.string C.s) := fun o => al_cell c0 o
    have a1 : ∀ o, (w.alloc o).cell? ⟨C.pb, 1, none⟩ = some (.slice C.x C.ts.length C.c) := fun o => al_cell c1 o
    have a2 : ∀ o, (w.alloc o).cell? ⟨C.pb, 2, none⟩ = some (.int .i64 p) := fun o => al_cell c2 o
    obtain ⟨n, hn⟩ : ∃ n, C.ts.length = n := ⟨_, rfl⟩
    rw [hn] at a1 hp
    have Q : decide ((p : Int) < (n : Int)) = false := by simp; omega
    clear h hnone e1 e2 e3 c0 c1 c2 hn
    go_enter Tryz.func102, Tryz.ntmps102
    go_wp2
    go_quiet (fail)
    go_wp2
    refine ret_tok rfl rfl rfl (by simp [go_sem]) (by simp [go_sem]) (by simp [go_sem]) ⟨rfl, ?_⟩
    exact ((((bdn ((Below.refl _ _).alloc (Nat.le_refl _) _) _).setCell (Nat.le_refl _) _).setCell (Nat.le_refl _) _).setCell (Nat.le_refl _) _)

theorem fld0 (k q : Int) (t : ByteArray) (w : World) : (Instr.field 46 (.agg #[.int .i64 k, .string t, .int .i64 q]) 0).run Tryz.prog w = .ok (.int .i64 k) w := by kernel_rfl
theorem fld1 (k q : Int) (t : ByteArray) (w : World) : (Instr.field 46 (.agg #[.int .i64 k, .string t, .int .i64 q]) 1).run Tryz.prog w = .ok (.string t) w := by kernel_rfl
theorem fld2 (k q : Int) (t : ByteArray) (w : World) : (Instr.field 46 (.agg #[.int .i64 k, .string t, .int .i64 q]) 2).run Tryz.prog w = .ok (.int .i64 q) w := by kernel_rfl
end Go.Proofs.YtpbkeamjdolpgaaGreatDoor
namespace Go.Proofs.YtpbkeamjdolpgaaGreatDoor
open Go.RowKit Go.Lib

theorem str_ne {a b : List UInt8} (h : a ≠ b) : (a == b) = false := beq_eq_false_iff_ne.2 h
/-- Strings one after the other. -/
def StrRow (w : World) (g o : Nat) (l : List (List UInt8)) : Prop := ∀ j u, l[j]? = some u → w.cell? ⟨g, o + j, none⟩ = some (.string ⟨u.toArray⟩)
theorem StrRow.below {w w' : World} {g o : Nat} {l : List (List UInt8)} (h : StrRow w g o l) (hb : Below w.heap.size w w') : StrRow w' g o l :=
  fun j u hj => (hb.cell (p := ⟨g, o + j, none⟩) (World.block_lt_of_cell? w _ (h j u hj))).trans (h j u hj)

set_option maxHeartbeats 4000000 in
set_option maxRecDepth 100000 in
theorem index_any (l : List (List UInt8)) (n : Nat) (hl : l.length = n) (hn : n ≤ 4096) (g o c : Nat) (s : List UInt8) (w : World) (h : StrRow w g o l) :
    Calls Tryz.prog 228 #[.slice (some ⟨g, o, none⟩) n c, .string ⟨s.toArray⟩] w fun e w' => (∃ r : Int, e = .returned (.int .i64 r) ∧ decide (0 ≤ r) = decide (s ∈ l)) ∧ w = w' := by
  have H := Lib.hid h
  have HL := Lib.hid hl
  clear h hl
  go_enter Tryz.func228, Tryz.ntmps228
  go_wp2
  go_loopw [8] (fun v wx => ∃ i : Nat, v = .int .i64 i ∧ i ≤ n ∧ wx = w ∧ Hid (s ∉ l.take i)) (fun v _ => n - (RowKit.intOf v).toNat)
  case atStart => exact ⟨0, rfl, Nat.zero_le _, rfl, by simp [Hid]⟩
  case round =>
    obtain ⟨i, rfl, hi, rfl, hs⟩ := hrel
    by_cases hlt : i < n
    · obtain ⟨u, hu⟩ : ∃ u, l[i]? = some u := ⟨l[i]'(by have := HL.out; omega), List.getElem?_eq_getElem _⟩
      have k := H.out i u hu
      by_cases he : s = u
      · subst he
        have hm : s ∈ l := List.mem_of_getElem? hu
        have HM := Lib.hid hm
        clear hu hs hm
        go_wp2
        go_ret
        exact ⟨⟨i, rfl, by simp [HM.out]⟩, rfl⟩
      · have Q := str_ne he
        have hs2 : s ∉ l.take (i + 1) := by
          rw [List.take_add_one, hu]
          simp [hs.out, he]
        have HS := Lib.hid hs2
        clear hu hs hs2 he
        go_wp2
        go_roundw
        case rel => exact ⟨i + 1, by go_num, by omega, trivial, HS⟩
        case measure => simp [RowKit.intOf]; omega
    · have hm : s ∉ l := by
        have := hs.out
        rwa [List.take_of_length_le (by have := HL.out; omega)] at this
      have HM := Lib.hid hm
      clear hs hm
      go_wp2
      go_ret
      exact ⟨⟨-1, rfl, by simp [HM.out]⟩, rfl⟩
set_option maxHeartbeats 4000000 in
set_option maxRecDepth 100000 in
theorem contains_any (l : List (List UInt8)) (n : Nat) (hl : l.length = n) (hn : n ≤ 4096) (g o c : Nat) (s : List UInt8) (w : World) (h : StrRow w g o l) :
    Calls Tryz.prog 189 #[.slice (some ⟨g, o, none⟩) n c, .string ⟨s.toArray⟩] w fun e w' => e = .returned (.bool (decide (s ∈ l))) ∧ w = w' := by
  have ci := index_any l n hl hn g o c s w h
  obtain ⟨B, hB⟩ : ∃ B, decide (s ∈ l) = B := ⟨_, rfl⟩
  rw [hB] at ci ⊢
  clear h hB hl
  go_enter Tryz.func189, Tryz.ntmps189
  go_wp2_with (first | (go_at_call 228; (with_reducible refine ci.mono ?_); rintro e w1 ⟨⟨r, rfl, hr⟩, rfl⟩; clear ci))
  go_ret
  refine ⟨?_, rfl⟩
  rw [← hr]
  congr 2

def resvL : List (List UInt8) := [wModule, wFunction, wFor, wIf, wElse]
theorem resv_mem (s : List UInt8) : decide (s ∈ resvL) = resv s := by simp [resvL, resv, Bool.decide_or, Bool.or_assoc]
theorem five_row (w : World) (a b c d e : List UInt8) (t : TypeId) : StrRow (w.alloc (.cells #[.string ⟨a.toArray⟩, .string ⟨b.toArray⟩, .string ⟨c.toArray⟩, .string ⟨d.toArray⟩, .string ⟨e.toArray⟩] t)) w.heap.size 0 [a, b, c, d, e] := by
  intro j u hj
  match j, hj with
  | 0, hj => simp at hj; subst hj; simp
  | 1, hj => simp at hj; subst hj; simp
  | 2, hj => simp at hj; subst hj; simp
  | 3, hj => simp at hj; subst hj; simp
  | 4, hj => simp at hj; subst hj; simp
  | j + 5, hj => simp at hj
set_option maxHeartbeats 4000000 in
set_option maxRecDepth 100000 in
theorem reserved_any (s : List UInt8) (w : World) :
    Calls Tryz.prog 150 #[.string ⟨s.toArray⟩] w fun e w' => e = .returned (.bool (resv s)) ∧ Below w.heap.size w w' := by
  have cc := contains_any resvL 5 rfl (by omega) w.heap.size 0 5 s _ (five_row w wModule wFunction wFor wIf wElse 9)
  rw [resv_mem] at cc
  simp only [wModule, wFunction, wFor, wIf, wElse] at cc
  go_enter Tryz.func150, Tryz.ntmps150
  go_wp2_with (first | (go_at_call 189; (with_reducible refine cc.mono ?_); rintro e w1 ⟨rfl, rfl⟩; clear cc))
  go_ret
  exact ⟨rfl, (Below.refl _ _).alloc (Nat.le_refl _) _⟩
end Go.Proofs.YtpbkeamjdolpgaaGreatDoor
namespace Go.Proofs.YtpbkeamjdolpgaaGreatDoor

/-- Not out of fuel; goes on from p at the least, to n at the most. -/
def Gd {A : Type} (n p : Nat) : Res A → Prop
  | .out => False
  | .bad q => q ≤ n
  | .ok _ q => p ≤ q ∧ q ≤ n
theorem Gd.bind {A B : Type} {n p p' : Nat} {R : Res A} {f : A → Nat → Res B} (h : Gd n p R) (k : ∀ a q, p ≤ q → q ≤ n → Gd n p' (f a q)) : Gd n p' (R.bind f) := by
  cases R with
  | out => exact h.elim
  | bad q => exact h
  | ok a q => exact k a q h.1 h.2
theorem Gd.mono {A : Type} {n p p' : Nat} {R : Res A} (h : Gd n p R) (hp : p' ≤ p) : Gd n p' R := by
  cases R with
  | out => exact h
  | bad q => exact h
  | ok a q => exact ⟨Nat.le_trans hp h.1, h.2⟩
theorem Gd.ne {A : Type} {n p : Nat} {R : Res A} (h : Gd n p R) : R ≠ .out := by
  intro e
  subst e
  exact h

section
variable {ts : List Tk} {L : Nat}
theorem kindT_lt {p : Nat} (h : kindT ts p ≠ -1) : p < ts.length := by
  apply Classical.byContradiction
  intro hn
  apply h
  unfold kindT
  rw [List.getElem?_eq_none (by omega)]
theorem isT_lt {p : Nat} {s : List UInt8} (h : isT ts p s = true) : p < ts.length := by
  apply kindT_lt
  intro hk
  unfold isT at h
  rw [hk] at h
  simp at h
theorem namedT_lt {p : Nat} (h : namedT ts p = true) : p < ts.length := by
  apply kindT_lt
  intro hk
  unfold namedT at h
  rw [hk] at h
  simp at h
theorem gd_take {p : Nat} (s : List UInt8) (hp : p ≤ ts.length) : Gd ts.length (p + 1) (takeP ts L s p) := by
  unfold takeP
  split
  · rename_i h
    exact ⟨Nat.le_refl _, isT_lt h⟩
  · exact hp
theorem gd_name {p : Nat} (hp : p ≤ ts.length) : Gd ts.length (p + 1) (nameP ts p) := by
  unfold nameP
  split
  · rename_i h
    exact ⟨Nat.le_refl _, namedT_lt h⟩
  · exact hp
theorem gd_nameN {p : Nat} (hp : p ≤ ts.length) : Gd ts.length (p + 1) (nameN ts L p) :=
  (gd_name hp).bind fun _ _ h1 h2 => ⟨h1, h2⟩
/-- A part of the parser is right from token b on. -/
def Up (ts : List Tk) (b : Nat) (R : Nat → Res Nd) : Prop := ∀ p, b ≤ p → p ≤ ts.length → Gd ts.length (p + 1) (R p)

theorem gd_rowM {one : Nat → Res Nd} {e : List UInt8} : ∀ (f : Nat) (acc : List Nd) (q : Nat), q ≤ ts.length → ts.length - q < f → Up ts (q + 1) one → Gd ts.length (q + 1) (rowM ts L one f e acc q)
  | 0, _, _, _, h, _ => by omega
  | f + 1, acc, q, hq, hf, h1 => by
    unfold rowM
    split
    · rename_i h
      exact ⟨Nat.le_refl _, isT_lt h⟩
    · refine (gd_take [44] hq).bind fun _ r hr hr2 => ?_
      refine (h1 r (by omega) hr2).bind fun x r' hr' hr2' => ?_
      exact (gd_rowM f _ r' hr2' (by omega) (fun p hb hp => h1 p (by omega) hp)).mono (by omega)
theorem gd_rowG {one : Nat → Res Nd} {e : List UInt8} (f : Nat) (p : Nat) (hp : p ≤ ts.length) (hf : ts.length - p < f) (h1 : Up ts p one) : Gd ts.length (p + 1) (rowG ts L one f e p) := by
  unfold rowG
  split
  · rename_i h
    exact ⟨Nat.le_refl _, isT_lt h⟩
  · refine (h1 p (Nat.le_refl _) hp).bind fun x q hq hq2 => ?_
    exact (gd_rowM f _ q hq2 (by omega) (fun p' hb hp' => h1 p' (by omega) hp')).mono (by omega)
theorem gd_args {ex : Nat → Res Nd} (f : Nat) (p : Nat) (hp : p ≤ ts.length) (hf : ts.length - p < f) (h1 : Up ts (p + 1) ex) : Gd ts.length (p + 1) (argsO ts L ex f p) := by
  unfold argsO
  refine (gd_take [40] hp).bind fun a q hq hq2 => ?_
  refine (gd_rowG f q hq2 (by omega) (fun p' hb hp' => h1 p' (by omega) hp')).bind fun l r hr hr2 => ?_
  exact ⟨by omega, hr2⟩
theorem gd_params (f : Nat) (p : Nat) (hp : p ≤ ts.length) (hf : ts.length - p < f) : Gd ts.length (p + 1) (paramsP ts L f p) := by
  unfold paramsP
  refine (gd_take [40] hp).bind fun a q hq hq2 => ?_
  refine (gd_rowG f q hq2 (by omega) (fun p' hb hp' => gd_nameN hp')).bind fun l r hr hr2 => ?_
  exact ⟨by omega, hr2⟩
theorem gd_atom {ex : Nat → Res Nd} (f : Nat) (p : Nat) (hp : p ≤ ts.length) (hf : ts.length - p < f) (h1 : Up ts (p + 1) ex) : Gd ts.length (p + 1) (atomO ts L ex f p) := by
  unfold atomO
  split
  · rename_i h
    have := isT_lt h
    refine (h1 (p + 1) (by omega) this).bind fun x q hq hq2 => ?_
    exact (gd_take [41] hq2).bind fun _ e he he2 => ⟨by omega, he2⟩
  · split
    · rename_i h
      have := isT_lt h
      exact (gd_rowG f (p + 1) this (by omega) (fun p' hb hp' => h1 p' (by omega) hp')).bind fun l q hq hq2 => ⟨by omega, hq2⟩
    · split
      · rename_i h
        have := kindT_lt (ts := ts) (p := p) (by rw [h]; decide)
        exact ⟨Nat.le_refl _, this⟩
      · refine (gd_name hp).bind fun s q hq hq2 => ?_
        split
        · exact (gd_args f q hq2 (by omega) (fun p' hb hp' => h1 p' (by omega) hp')).bind fun a r hr hr2 => ⟨by omega, hr2⟩
        · exact ⟨hq, hq2⟩
theorem gd_index {ex : Nat → Res Nd} : ∀ (f : Nat) (x : Nd) (q : Nat), q ≤ ts.length → ts.length - q < f → Up ts (q + 1) ex → Gd ts.length q (indexL ts L ex f x q)
  | 0, _, _, _, h, _ => by omega
  | f + 1, x, q, hq, hf, h1 => by
    unfold indexL
    split
    · rename_i h
      have := isT_lt h
      refine (h1 (q + 1) (by omega) this).bind fun y r hr hr2 => ?_
      refine (gd_take [93] hr2).bind fun _ e he he2 => ?_
      exact (gd_index f _ e he2 (by omega) (fun p' hb hp' => h1 p' (by omega) hp')).mono (by omega)
    · exact ⟨Nat.le_refl _, hq⟩
theorem gd_unary {ex : Nat → Res Nd} {F : Nat} : ∀ (f : Nat) (p : Nat), p ≤ ts.length → ts.length - p < f → ts.length - p < F → Up ts (p + 1) ex → Gd ts.length (p + 1) (unaryL ts L ex F f p)
  | 0, _, _, h, _, _ => by omega
  | f + 1, p, hp, hf, hF, h1 => by
    unfold unaryL
    split
    · rename_i h
      have : p < ts.length := by
        rcases Bool.or_eq_true _ _ |>.mp h with h | h <;> exact isT_lt h
      refine (gd_unary f (p + 1) this (by omega) (by omega) (fun p' hb hp' => h1 p' (by omega) hp')).bind fun x q hq hq2 => ?_
      exact ⟨by omega, hq2⟩
    · refine (gd_atom F p hp hF h1).bind fun x q hq hq2 => ?_
      exact (gd_index F x q hq2 (by omega) (fun p' hb hp' => h1 p' (by omega) hp')).mono hq
theorem anyT_lt {p : Nat} {l : List (List UInt8)} (h : anyT ts p l = true) : p < ts.length := by
  unfold anyT at h
  obtain ⟨s, _, hs⟩ := List.any_eq_true.1 h
  exact isT_lt hs
theorem gd_levelM {tight : Nat → Res Nd} {k : Nat} : ∀ (f : Nat) (x : Nd) (q : Nat), q ≤ ts.length → ts.length - q < f → Up ts (q + 1) tight → Gd ts.length q (levelM ts L tight k f x q)
  | 0, _, _, _, h, _ => by omega
  | f + 1, x, q, hq, hf, h1 => by
    unfold levelM
    split
    · rename_i h
      have := anyT_lt h
      refine (h1 (q + 1) (by omega) this).bind fun y r hr hr2 => ?_
      split
      · exact ⟨by omega, hr2⟩
      · exact (gd_levelM f _ r hr2 (by omega) (fun p' hb hp' => h1 p' (by omega) hp')).mono (by omega)
    · exact ⟨Nat.le_refl _, hq⟩
theorem gd_level {tight : Nat → Res Nd} {k f p : Nat} (hp : p ≤ ts.length) (hf : ts.length - p < f) (h1 : Up ts p tight) : Gd ts.length (p + 1) (levelO ts L tight k f p) := by
  unfold levelO
  refine (h1 p (Nat.le_refl _) hp).bind fun x q hq hq2 => ?_
  exact (gd_levelM f x q hq2 (by omega) (fun p' hb hp' => h1 p' (by omega) hp')).mono hq
theorem gd_lev {ex : Nat → Res Nd} {f : Nat} : ∀ (d p : Nat), p ≤ ts.length → ts.length - p < f → Up ts (p + 1) ex → Gd ts.length (p + 1) (levO ts L ex f d p)
  | 0, p, hp, hf, h1 => gd_unary f p hp hf hf h1
  | d + 1, p, hp, hf, h1 => gd_level hp hf fun p' hb hp' => gd_lev d p' hp' (by omega) (fun p2 hb2 hp2 => h1 p2 (by omega) hp2)
theorem gd_exprO {ex : Nat → Res Nd} {f p : Nat} (hp : p ≤ ts.length) (hf : ts.length - p < f) (h1 : Up ts (p + 1) ex) : Gd ts.length (p + 1) (exprO ts L ex f p) := by
  unfold exprO
  refine (gd_lev 5 p hp hf h1).bind fun x q hq hq2 => ?_
  split
  · rename_i h
    have := isT_lt h
    refine (h1 (q + 1) (by omega) this).bind fun y r hr hr2 => ?_
    refine (gd_take [58] hr2).bind fun _ r' hr' hr2' => ?_
    refine (h1 r' (by omega) hr2').bind fun z e he he2 => ?_
    exact ⟨by omega, he2⟩
  · exact ⟨hq, hq2⟩
theorem gd_expr : ∀ (f p : Nat), p ≤ ts.length → ts.length - p + 1 < f → Gd ts.length (p + 1) (exprP ts L f p)
  | 0, _, _, h => by omega
  | f + 1, p, hp, hf => by
    exact gd_exprO hp (by omega) fun p' hb hp' => gd_expr f p' hp' (by omega)
theorem up_expr (f b : Nat) (h : ts.length - b + 1 < f) : Up ts b (exprP ts L f) := fun p hb hp => gd_expr f p hp (by omega)

theorem gd_blockL {st : Nat → Res Nd} : ∀ (f : Nat) (acc : List Nd) (q : Nat), q ≤ ts.length → ts.length - q < f → Up ts q st → Gd ts.length (q + 1) (blockL ts st f acc q)
  | 0, _, _, _, h, _ => by omega
  | f + 1, acc, q, hq, hf, h1 => by
    unfold blockL
    split
    · rename_i h
      exact ⟨Nat.le_refl _, isT_lt h⟩
    · refine (h1 q (Nat.le_refl _) hq).bind fun x r hr hr2 => ?_
      · exact (gd_blockL f _ r hr2 (by omega) (fun p' hb hp' => h1 p' (by omega) hp')).mono (by omega)
theorem gd_block {st : Nat → Res Nd} {f p : Nat} (hp : p ≤ ts.length) (hf : ts.length - p < f) (h1 : Up ts (p + 1) st) : Gd ts.length (p + 1) (blockO ts L st f p) := by
  unfold blockO
  refine (gd_take [123] hp).bind fun a q hq hq2 => ?_
  refine (gd_blockL f [] q hq2 (by omega) (fun p' hb hp' => h1 p' (by omega) hp')).bind fun l r hr hr2 => ?_
  exact ⟨by omega, hr2⟩
theorem gd_stmtO {ex st : Nat → Res Nd} {f p : Nat} (hp : p ≤ ts.length) (hf : ts.length - p < f) (hx : Up ts (p + 1) ex) (hs : Up ts (p + 1) st) : Gd ts.length (p + 1) (stmtO ts L ex st f p) := by
  have X : ∀ q, p + 1 ≤ q → q ≤ ts.length → Gd ts.length (q + 1) (ex q) := fun q h1 h2 => hx q (by omega) h2
  have B : ∀ q, p + 1 ≤ q → q ≤ ts.length → Gd ts.length (q + 1) (blockO ts L st f q) := fun q h1 h2 => gd_block h2 (by omega) (fun p' hb hp' => hs p' (by omega) hp')
  have P : ∀ q, p + 1 ≤ q → q ≤ ts.length → Gd ts.length (q + 1) (paramsP ts L f q) := fun q h1 h2 => gd_params f q h2 (by omega)
  unfold stmtO
  split
  · rename_i h
    have := isT_lt h
    refine (gd_name this).bind fun s q hq hq2 => (P q (by omega) hq2).bind fun x r hr hr2 => (B r (by omega) hr2).bind fun y e he he2 => ⟨by omega, he2⟩
  · split
    · rename_i h
      have := isT_lt h
      refine (gd_name this).bind fun s q hq hq2 => (P q (by omega) hq2).bind fun x r hr hr2 => (gd_take [61] hr2).bind fun _ r1 h1 h12 => (X r1 (by omega) h12).bind fun y r2 h2 h22 => (gd_take [59] h22).bind fun _ e he he2 => ⟨by omega, he2⟩
    · split
      · rename_i h
        have := isT_lt h
        refine (gd_take [40] this).bind fun _ q hq hq2 => (gd_name hq2).bind fun s r hr hr2 => (gd_take [61] hr2).bind fun _ r1 h1 h12 => (X r1 (by omega) h12).bind fun x r2 h2 h22 => (gd_take [41] h22).bind fun _ r3 h3 h32 => (B r3 (by omega) h32).bind fun y e he he2 => ⟨by omega, he2⟩
      · split
        · rename_i h
          have := isT_lt h
          refine (gd_take [40] this).bind fun _ q hq hq2 => (X q (by omega) hq2).bind fun x r hr hr2 => (gd_take [41] hr2).bind fun _ r1 h1 h12 => (B r1 (by omega) h12).bind fun y r2 h2 h22 => ?_
          split
          · rename_i h'
            have := isT_lt h'
            exact (B (r2 + 1) (by omega) this).bind fun z e he he2 => ⟨by omega, he2⟩
          · exact ⟨by omega, h22⟩
        · refine (gd_name hp).bind fun s q hq hq2 => ?_
          split
          · rename_i h'
            have := isT_lt h'
            exact (X (q + 1) (by omega) this).bind fun x r hr hr2 => (gd_take [59] hr2).bind fun _ e he he2 => ⟨by omega, he2⟩
          · refine (gd_args f q hq2 (by omega) (fun p' hb hp' => hx p' (by omega) hp')).bind fun x r hr hr2 => ?_
            split
            · exact (B r (by omega) hr2).bind fun y e he he2 => ⟨by omega, he2⟩
            · exact (gd_take [59] hr2).bind fun _ e he he2 => ⟨by omega, he2⟩
theorem gd_stmt {F : Nat} (hF : ts.length + 1 < F) : ∀ (f p : Nat), p ≤ ts.length → ts.length - p < f → Gd ts.length (p + 1) (stmtP ts L F f p)
  | 0, _, _, h => by omega
  | f + 1, p, hp, hf => by
    exact gd_stmtO hp (by omega) (up_expr F _ (by omega)) fun p' hb hp' => gd_stmt hF f p' hp' (by omega)
theorem gd_stmts {F : Nat} (hF : ts.length + 1 < F) : ∀ (f : Nat) (acc : List Nd) (q : Nat), q ≤ ts.length → ts.length - q < f → Gd ts.length q (stmtsP ts L F f acc q)
  | 0, _, _, _, h => by omega
  | f + 1, acc, q, hq, hf => by
    unfold stmtsP
    split
    · exact ⟨Nat.le_refl _, hq⟩
    · refine (gd_stmt hF F q hq (by omega)).bind fun x r hr hr2 => ?_
      exact (gd_stmts hF f _ r hr2 (by omega)).mono (by omega)
end
end Go.Proofs.YtpbkeamjdolpgaaGreatDoor
