/- The walks of tree.all and of what it calls: a test of all nodes of a row. The walks of slices.IndexFunc, slices.ContainsFunc with the parser's own test. The walks of tree.signs, allSigns, slices.Clone, slices.Backward. Plain: what Parse tells of a text; how many nodes there are. Plain: how much a tree weighs: its nodes, and the bytes of their names. The walks of lexer.run and of the two closures that it is called with. The walks of lexer.word, lexer.skip, lexer.Name. -/
import Derived.Test.YtpbkeamjdolpgaaGreatDoorB03
import Derived.OneCell
import Derived.LoopTactic
import Derived.Test.YtpbkeamjdolpgaaGreatDoorB02
import Derived.Test.YtpbkeamjdolpgaaGreatDoorB01
import Derived.Test.YtpbkeamjdolpgaaGreatDoorShelf
import Derived.WalkKit
import Derived.WalkSpells
import Derived.WalkLawsBesides
import Derived.Deep.LoopGhost
import Derived.Lib.OthersKept
import Derived.Lib.Hide
import Derived.BigQuiet
import Derived.Deep.QuietTactic
import Derived.Outline
import Derived.Deep.WholeRow
import Derived.Great.BuildSlice
namespace Go.Proofs.YtpbkeamjdolpgaaGreatDoor
open Go.RowKit Go.Lib Go.Shelf

/-- A test's answer. -/
def Yes (b : Bool) (w : World) (e : Ending) (w' : World) : Prop := e = .returned (.bool b) ∧ Below w.heap.size w w'
/-- A function of one node that answers Q, where x is the node. -/
def OneQ (F : Nat) (cap : List Value) (ok : Nat → Prop) (Q : Nd → Bool) (w0 : World) (x : Nd) : Prop :=
  ∀ v w1, Below w0.heap.size w0 w1 → NdVal w1 ok x v → Calls Tryz.prog F (#[v] ++ cap.toArray) w1 (Yes (Q x) w1)
theorem OneQ.below {F : Nat} {cap : List Value} {ok : Nat → Prop} {Q : Nd → Bool} {w0 w1 : World} {x : Nd} (h : OneQ F cap ok Q w0 x) (hb : Below w0.heap.size w0 w1) : OneQ F cap ok Q w1 x := fun v w2 h2 => h v w2 (tr hb h2)
set_option maxHeartbeats 4000000 in
set_option maxRecDepth 100000 in
/-- all's own closure: not Q. -/
theorem notone_any (F : Nat) (hF : ∀ args w, (callFunc F args).run Tryz.prog w = .ok (.enter F args) w) (ok : Nat → Prop) (Q : Nd → Bool) (w0 : World) (x : Nd) (h : OneQ F [] ok Q w0 x) (bx : Nat) (hx : w0.cell? ⟨bx, 0, none⟩ = some (.func (.func F) #[] #[])) : OneQ 92 [.pointer (some ⟨bx, 0, none⟩)] ok (fun x => !Q x) w0 x := by
  intro v w1 hb hv
  obtain ⟨B, hB⟩ : ∃ B, Q x = B := ⟨_, rfl⟩
  unfold Yes
  simp only [hB]
  obtain ⟨k, n, kids, p⟩ := x
  obtain ⟨y, c, rfl, hrow⟩ := hv
  have hA : Below w1.heap.size w1 (w1.alloc (.cells #[.int .i64 k, .string ⟨n.toArray⟩, .slice y kids.length c, .int .i64 p] 53)) := (Below.refl _ _).alloc (Nat.le_refl _) _
  have c1 := h (.agg #[.int .i64 k, .string ⟨n.toArray⟩, .slice y kids.length c, .int .i64 p]) _ (tr hb hA) ⟨y, c, rfl, hrow.below hA⟩
  rw [hB] at c1
  have hx1 : w1.cell? ⟨bx, 0, none⟩ = some (.func (.func F) #[] #[]) := (hb.cell (p := ⟨bx, 0, none⟩) (World.block_lt_of_cell? w0 _ hx)).trans hx
  have hx2 := fun o => al_cell hx1 o
  have HA := Lib.hid hA
  simp only [List.append_toArray, List.append_nil] at c1
  clear h hrow hB hb hA hx
  show Calls _ _ _ _ _
  simp only [List.append_toArray, List.cons_append, List.nil_append]
  go_enter Tryz.func92, Tryz.ntmps92
  go_wp2_with fail
  refine c1.mono ?_
  clear c1
  rintro e w2 ⟨rfl, hb2⟩
  go_wp2_with fail
  go_ret
  exact ⟨rfl, tr HA.out hb2⟩
set_option maxHeartbeats 4000000 in
set_option maxRecDepth 100000 in
theorem indexn_any (bx : Nat) (ok : Nat → Prop) (Q : Nd → Bool) (l : List Nd) (n : Nat) (hl : l.length = n) (hn : n < 2 ^ 62) (y : Option Addr) (c : Nat) (w : World) (hrow : NdRow w ok l y) (h : ∀ x ∈ l, OneQ 92 [.pointer (some ⟨bx, 0, none⟩)] ok Q w x) :
    Calls Tryz.prog 146 #[.slice y n c, .func (.func 92) #[] #[.pointer (some ⟨bx, 0, none⟩)]] w fun e w' => (∃ r : Int, e = .returned (.int .i64 r) ∧ decide (0 ≤ r) = l.any Q) ∧ Below w.heap.size w w' := by
  have HROW := Lib.hid hrow
  have HL := Lib.hid hl
  have HH := Lib.hid h
  have eg := enters_of Tryz.func92 (by kernel_rfl) rfl
  clear h hl hrow
  go_enter Tryz.func146, Tryz.ntmps146
  go_wp2_with fail
  go_loopw [8] (fun v wx => ∃ i : Nat, v = .int .i64 i ∧ i ≤ n ∧ Below w.heap.size w wx ∧ Hid ((l.take i).any Q = false)) (fun v _ => n - (RowKit.intOf v).toNat)
  case atStart => exact ⟨0, rfl, Nat.zero_le _, Below.refl _ _, by simp [Hid]⟩
  case round =>
    obtain ⟨i, rfl, hi, hb, hf⟩ := hrel
    by_cases hlt : i < n
    · obtain ⟨u, hu⟩ : ∃ u, l[i]? = some u := ⟨l[i]'(by have := HL.out; omega), List.getElem?_eq_getElem _⟩
      obtain ⟨B, o, rfl, hat⟩ := (HROW.out.below hb).at_ hu
      obtain ⟨k, nm, z, kids, cc, p, rfl, x0, x1, x2, x3, hk⟩ := hat.val
      have c1 := HH.out _ (List.mem_of_getElem? hu) (.agg #[.int .i64 k, .string ⟨nm.toArray⟩, .slice z kids.length cc, .int .i64 p]) wr hb ⟨z, cc, rfl, hk⟩
      have hnext : (l.take (i + 1)).any Q = Q (.mk k nm kids p) := by
        rw [List.take_add_one, hu, List.any_append, hf.out]
        simp
      have hall : Q (.mk k nm kids p) = true → l.any Q = true := fun ht => List.any_eq_true.2 ⟨_, List.mem_of_getElem? hu, ht⟩
      have HN := Lib.hid hnext
      have HA := Lib.hid hall
      have hwsz := hb.size
      simp only [List.append_toArray, List.cons_append, List.nil_append] at c1
      cases hB : Q (.mk k nm kids p)
      · rw [hB] at c1
        have HB := Lib.hid hB
        clear hu hf hnext hall hB hk hat
        go_wp2_with fail
        refine c1.mono ?_
        clear c1
        rintro e w1 ⟨rfl, hb1⟩
        go_wp2_with fail
        go_roundw
        case rel => exact ⟨i + 1, by go_num, by omega, tr hb hb1, by rw [HN.out, HB.out]; rfl⟩
        case measure => simp [RowKit.intOf]; omega
      · rw [hB] at c1
        have HB := Lib.hid hB
        clear hu hf hnext hall hB hk hat
        go_wp2_with fail
        refine c1.mono ?_
        clear c1
        rintro e w1 ⟨rfl, hb1⟩
        go_wp2_with fail
        go_ret
        exact ⟨⟨i, rfl, by rw [HA.out HB.out]; simp⟩, tr hb hb1⟩
    · have hm : l.any Q = false := by
        have := hf.out
        rw [List.take_of_length_le (by have := HL.out; omega)] at this
        exact this
      have HM := Lib.hid hm
      clear hf hm
      go_wp2_with fail
      go_ret
      exact ⟨⟨-1, rfl, by rw [HM.out]; simp⟩, hb⟩
set_option maxHeartbeats 4000000 in
set_option maxRecDepth 100000 in
theorem containsn_any (bx : Nat) (ok : Nat → Prop) (Q : Nd → Bool) (l : List Nd) (n : Nat) (hl : l.length = n) (hn : n < 2 ^ 62) (y : Option Addr) (c : Nat) (w : World) (hrow : NdRow w ok l y) (h : ∀ x ∈ l, OneQ 92 [.pointer (some ⟨bx, 0, none⟩)] ok Q w x) :
    Calls Tryz.prog 91 #[.slice y n c, .func (.func 92) #[] #[.pointer (some ⟨bx, 0, none⟩)]] w (Yes (l.any Q) w) := by
  have ci := indexn_any bx ok Q l n hl hn y c w hrow h
  obtain ⟨B, hB⟩ : ∃ B, l.any Q = B := ⟨_, rfl⟩
  rw [hB] at ci ⊢
  clear h hB hl hrow
  go_enter Tryz.func91, Tryz.ntmps91
  go_wp2_with fail
  refine ci.mono ?_
  clear ci
  rintro e w1 ⟨⟨r, rfl, hr⟩, hb1⟩
  go_wp2_with fail
  go_ret
  refine ⟨?_, hb1⟩
  rw [← hr]
  congr 2
theorem any_not (Q : Nd → Bool) (l : List Nd) : (!(l.any fun x => !Q x)) = l.all Q := by
  induction l with
  | nil => rfl
  | cons x r ih =>
    rw [List.any_cons, List.all_cons, Bool.not_or, ih, Bool.not_not]
set_option maxHeartbeats 4000000 in
set_option maxRecDepth 100000 in
theorem all_any (F : Nat) (hF : ∀ args w, (callFunc F args).run Tryz.prog w = .ok (.enter F args) w) (ok : Nat → Prop) (Q : Nd → Bool) (l : List Nd) (n : Nat) (hl : l.length = n) (hn : n < 2 ^ 62) (y : Option Addr) (c : Nat) (w : World) (hrow : NdRow w ok l y) (h : ∀ x ∈ l, OneQ F [] ok Q w x) :
    Calls Tryz.prog 51 #[.slice y n c, .func (.func F) #[] #[]] w (Yes (l.all Q) w) := by
  have hmf : ∀ (fn : Fn) (first cap : Array Value) (w : World), (Instr.makeFunc fn first cap).run Tryz.prog w = .ok (.func fn first cap) w := fun _ _ _ _ => rfl
  have hA : Below w.heap.size w (w.alloc (.cells #[.func (.func F) #[] #[]] 81)) := (Below.refl _ _).alloc (Nat.le_refl _) _
  have ci := containsn_any w.heap.size ok (fun x => !Q x) l n hl hn y c (w.alloc (.cells #[.func (.func F) #[] #[]] 81)) (hrow.below hA) (fun x hx => notone_any F hF ok Q _ x ((h x hx).below hA) w.heap.size (cell_of_one (heap_alloc_new w _)))
  have HA := Lib.hid hA
  obtain ⟨B, hB⟩ : ∃ B, l.any (fun x => !Q x) = B := ⟨_, rfl⟩
  have hB2 := any_not Q l
  rw [hB] at ci hB2
  rw [← hB2]
  clear h hB hl hrow hA hB2 hF
  go_enter Tryz.func51, Tryz.ntmps51
  go_wp2_with fail
  refine ci.mono ?_
  clear ci
  rintro e w1 ⟨rfl, hb1⟩
  go_wp2_with fail
  go_ret
  exact ⟨rfl, tr HA.out hb1⟩
end Go.Proofs.YtpbkeamjdolpgaaGreatDoor
namespace Go.Proofs.YtpbkeamjdolpgaaGreatDoor
open Go.RowKit Go.Lib Go.Shelf

set_option maxHeartbeats 4000000 in
set_option maxRecDepth 100000 in
theorem indexf_any (C : Ctx) (p : Nat) (l : List (List UInt8)) (n : Nat) (hl : l.length = n) (hn : n ≤ 4096) (g o c : Nat) (w : World) (hs : PSt C w p) (h : StrRow w g o l) :
    Calls Tryz.prog 197 #[.slice (some ⟨g, o, none⟩) n c, .func (.func 111) #[.pointer (some ⟨C.pb, 0, none⟩)] #[]] w fun e w' => (∃ r : Int, e = .returned (.int .i64 r) ∧ decide (0 ≤ r) = anyT C.ts p l) ∧ Below w.heap.size w w' := by
  have H := Lib.hid h
  have HL := Lib.hid hl
  have HS := Lib.hid hs
  have eg := enters_of Tryz.func111 (by kernel_rfl) rfl
  clear h hl hs
  go_enter Tryz.func197, Tryz.ntmps197
  go_wp2_with fail
  go_loopw [8] (fun v wx => ∃ i : Nat, v = .int .i64 i ∧ i ≤ n ∧ Below w.heap.size w wx ∧ Hid ((l.take i).any (isT C.ts p) = false)) (fun v _ => n - (RowKit.intOf v).toNat)
  case atStart => exact ⟨0, rfl, Nat.zero_le _, Below.refl _ _, by simp [Hid]⟩
  case round =>
    obtain ⟨i, rfl, hi, hb, hf⟩ := hrel
    by_cases hlt : i < n
    · obtain ⟨u, hu⟩ : ∃ u, l[i]? = some u := ⟨l[i]'(by have := HL.out; omega), List.getElem?_eq_getElem _⟩
      have k := (H.out.below hb) i u hu
      have c1 := is_any C p u wr (HS.out.below hb)
      have hnext : (l.take (i + 1)).any (isT C.ts p) = isT C.ts p u := by
        rw [List.take_add_one, hu, List.any_append, hf.out]
        simp
      have hall : isT C.ts p u = true → anyT C.ts p l = true := fun ht => List.any_eq_true.2 ⟨u, List.mem_of_getElem? hu, ht⟩
      have HN := Lib.hid hnext
      have HA := Lib.hid hall
      have hwsz := hb.size
      cases hB : isT C.ts p u
      · rw [hB] at c1
        have HB := Lib.hid hB
        clear hu hf hnext hall hB
        go_wp2_with (first | (go_at_call 111; (with_reducible refine c1.mono ?_); rintro e w1 ⟨rfl, hb1⟩))
        go_roundw
        case rel => exact ⟨i + 1, by go_num, by omega, tr hb hb1, by rw [HN.out, HB.out]; rfl⟩
        case measure => simp [RowKit.intOf]; omega
      · rw [hB] at c1
        have HB := Lib.hid hB
        clear hu hf hnext hall hB
        go_wp2_with (first | (go_at_call 111; (with_reducible refine c1.mono ?_); rintro e w1 ⟨rfl, hb1⟩))
        go_ret
        exact ⟨⟨i, rfl, by rw [HA.out HB.out]; simp⟩, tr hb hb1⟩
    · have hm : anyT C.ts p l = false := by
        have := hf.out
        rw [List.take_of_length_le (by have := HL.out; omega)] at this
        exact this
      have HM := Lib.hid hm
      clear hf hm
      go_wp2_with fail
      go_ret
      exact ⟨⟨-1, rfl, by rw [HM.out]; simp⟩, hb⟩
set_option maxHeartbeats 4000000 in
set_option maxRecDepth 100000 in
theorem containsf_any (C : Ctx) (p : Nat) (l : List (List UInt8)) (n : Nat) (hl : l.length = n) (hn : n ≤ 4096) (g o c : Nat) (w : World) (hs : PSt C w p) (h : StrRow w g o l) :
    Calls Tryz.prog 167 #[.slice (some ⟨g, o, none⟩) n c, .func (.func 111) #[.pointer (some ⟨C.pb, 0, none⟩)] #[]] w fun e w' => e = .returned (.bool (anyT C.ts p l)) ∧ Below w.heap.size w w' := by
  have ci := indexf_any C p l n hl hn g o c w hs h
  obtain ⟨B, hB⟩ : ∃ B, anyT C.ts p l = B := ⟨_, rfl⟩
  rw [hB] at ci ⊢
  clear h hB hl hs
  go_enter Tryz.func167, Tryz.ntmps167
  go_wp2_with (first | (go_at_call 197; (with_reducible refine ci.mono ?_); rintro e w1 ⟨⟨r, rfl, hr⟩, hb1⟩; clear ci))
  go_ret
  refine ⟨?_, hb1⟩
  rw [← hr]
  congr 2
end Go.Proofs.YtpbkeamjdolpgaaGreatDoor
namespace Go.Proofs.YtpbkeamjdolpgaaGreatDoor
open Go.RowKit Go.Lib Go.Shelf

/-- A level's slice of signs, in block g. -/
def sgV (g k : Nat) : Value := .slice (some ⟨g, 0, none⟩) (signsK k).length (signsK k).length
/-- The five levels' slices, in blocks from g on. -/
def SgAll (w : World) (g : Nat) : Prop := ∀ k, k ≤ 4 → StrRow w (g + k) 0 (signsK k) ∧ g + k < w.heap.size
theorem SgAll.below {w w' : World} {g : Nat} (h : SgAll w g) (hb : Below w.heap.size w w') : SgAll w' g := fun k hk => ⟨(h k hk).1.below hb, Nat.lt_of_lt_of_le (h k hk).2 hb.size⟩
theorem strRow_of {w : World} {g : Nat} {l : List (List UInt8)} {t : TypeId} (h : w.heap[g]? = some (.cells (l.map fun s => Value.string ⟨s.toArray⟩).toArray t)) : StrRow w g 0 l := by
  intro j u hj
  rw [Nat.zero_add]
  simp only [World.cell?, h]
  simp [hj]
theorem Tryz.info5 : (Tryz.prog.info? 219).map (·.size) = some 5 := by kernel_rfl
def sgArr (g : Nat) : Array Value := #[sgV g 0, sgV (g + 1) 1, sgV (g + 2) 2, sgV (g + 3) 3, sgV (g + 4) 4]
theorem heap_up {w : World} {b : Nat} {o o' : Obj} (h : w.heap[b]? = some o) : (w.alloc o').heap[b]? = some o := (Below.heap_alloc w o' b ((Array.getElem?_eq_some_iff.1 h).1)).trans h

set_option maxHeartbeats 4000000 in
set_option maxRecDepth 100000 in
theorem signs_any (w : World) :
    Calls Tryz.prog 196 #[] w fun e w' => e = .returned (.agg (sgArr (w.heap.size + 1))) ∧ Below w.heap.size w w' ∧ SgAll w' (w.heap.size + 1) := by
  go_enter Tryz.func196, Tryz.ntmps196
  go_wp2_with fail
  refine bodyPost_ret (v := .agg (sgArr (w.heap.size + 1))) (results_cell_row rfl _ _ w.heap.size 219 (sgArr (w.heap.size + 1)) (0, 0) _ rfl (heap_up (heap_up (heap_up (heap_up (heap_up (heap_alloc_new w _)))))) Tryz.underlying219 rfl Tryz.info5) rfl ⟨rfl, ?_, ?_⟩
  · exact (((((((Below.refl _ _).alloc (Nat.le_refl _) _).alloc (by simp) _).alloc (by simp; omega) _).alloc (by simp; omega) _).alloc (by simp; omega) _).alloc (by simp; omega) _)
  · intro k hk
    have s1 : ∀ (W : World) (o : Obj), (W.alloc o).heap.size = W.heap.size + 1 := World.size_alloc
    match k, hk with
    | 0, _ => exact ⟨strRow_of (heap_up (heap_up (heap_up (heap_up (by have h := heap_alloc_new (w.alloc (.cells (sgArr (w.heap.size + 1)) 219)) (.cells #[.string ⟨#[124, 124]⟩] 9); rw [s1] at h; exact h))))), by simp only [s1]; omega⟩
    | 1, _ => exact ⟨strRow_of (heap_up (heap_up (heap_up (by
        have h := heap_alloc_new ((w.alloc (.cells (sgArr (w.heap.size + 1)) 219)).alloc (.cells #[.string ⟨#[124, 124]⟩] 9)) (.cells #[.string ⟨#[38, 38]⟩] 9)
        rw [s1, s1] at h
        exact h)))), by simp only [s1]; omega⟩
    | 2, _ => exact ⟨strRow_of (heap_up (heap_up (by
        have h := heap_alloc_new (((w.alloc (.cells (sgArr (w.heap.size + 1)) 219)).alloc (.cells #[.string ⟨#[124, 124]⟩] 9)).alloc (.cells #[.string ⟨#[38, 38]⟩] 9)) (.cells #[.string ⟨#[60]⟩, .string ⟨#[60, 61]⟩, .string ⟨#[61, 61]⟩, .string ⟨#[33, 61]⟩, .string ⟨#[62, 61]⟩, .string ⟨#[62]⟩] 9)
        rw [s1, s1, s1] at h
        exact h))), by simp only [s1]; omega⟩
    | 3, _ => exact ⟨strRow_of (heap_up (by
        have h := heap_alloc_new ((((w.alloc (.cells (sgArr (w.heap.size + 1)) 219)).alloc (.cells #[.string ⟨#[124, 124]⟩] 9)).alloc (.cells #[.string ⟨#[38, 38]⟩] 9)).alloc (.cells #[.string ⟨#[60]⟩, .string ⟨#[60, 61]⟩, .string ⟨#[61, 61]⟩, .string ⟨#[33, 61]⟩, .string ⟨#[62, 61]⟩, .string ⟨#[62]⟩] 9)) (.cells #[.string ⟨#[43]⟩, .string ⟨#[45]⟩] 9)
        rw [s1, s1, s1, s1] at h
        exact h)), by simp only [s1]; omega⟩
    | 4, _ => exact ⟨strRow_of (by
        have h := heap_alloc_new (((((w.alloc (.cells (sgArr (w.heap.size + 1)) 219)).alloc (.cells #[.string ⟨#[124, 124]⟩] 9)).alloc (.cells #[.string ⟨#[38, 38]⟩] 9)).alloc (.cells #[.string ⟨#[60]⟩, .string ⟨#[60, 61]⟩, .string ⟨#[61, 61]⟩, .string ⟨#[33, 61]⟩, .string ⟨#[62, 61]⟩, .string ⟨#[62]⟩] 9)).alloc (.cells #[.string ⟨#[43]⟩, .string ⟨#[45]⟩] 9)) (.cells #[.string ⟨#[42]⟩, .string ⟨#[47]⟩] 9)
        rw [s1, s1, s1, s1, s1] at h
        exact h), by simp only [s1]; omega⟩
set_option maxHeartbeats 4000000 in
set_option maxRecDepth 100000 in
theorem back_any (a : Option Addr) (n c : Nat) (w : World) :
    Calls Tryz.prog 163 #[.slice a n c] w fun e w' => e = .returned (.func (.func 195) #[] #[.pointer (some ⟨w.heap.size, 0, none⟩)]) ∧ w' = w.alloc (.cells #[.slice a n c] 182) := by
  have hmf : ∀ (fn : Fn) (first cap : Array Value) (w : World), (Instr.makeFunc fn first cap).run Tryz.prog w = .ok (.func fn first cap) w := fun _ _ _ _ => rfl
  go_enter Tryz.func163, Tryz.ntmps163
  go_wp2_with fail
  go_ret
  exact ⟨rfl, rfl⟩
set_option maxHeartbeats 4000000 in
set_option maxRecDepth 100000 in
theorem allSigns_any (w : World) :
    Calls Tryz.prog 165 #[] w fun e w' => ∃ g b, e = .returned (.slice (some ⟨b, 0, none⟩) 5 5) ∧ Below w.heap.size w w' ∧ SgAll w' g ∧ w.heap.size ≤ g ∧ (∀ k, k ≤ 4 → w'.cell? ⟨b, k, none⟩ = some (sgV (g + k) k)) ∧ w.heap.size ≤ b := by
  have c0 := signs_any w
  simp only [sgArr, sgV] at c0
  go_enter Tryz.func165, Tryz.ntmps165
  go_wp2_with fail
  refine c0.mono ?_
  clear c0
  rintro e w1 ⟨rfl, hb1, hs1⟩
  go_wp2_with fail
  go_ret
  refine ⟨w.heap.size + 1, w1.heap.size, rfl, hb1.alloc hb1.size _, hs1.below ((Below.refl _ _).alloc (Nat.le_refl _) _), by omega, fun k hk => ?_, hb1.size⟩
  match k, hk with
  | 0, _ => simp [sgV]
  | 1, _ => simp [sgV]
  | 2, _ => simp [sgV]
  | 3, _ => simp [sgV]
  | 4, _ => simp [sgV]
theorem Tryz.infoStrs : (Tryz.prog.info? 44).map (fun i => (i.zero, i.size, i.bytes)) = some (some (.slice none 0 0), 1, 24) := by kernel_rfl
theorem sg_cells {w : World} {b g : Nat} (h : ∀ k, k ≤ 4 → w.cell? ⟨b, k, none⟩ = some (sgV (g + k) k)) : ∀ j u, [sgV g 0, sgV (g + 1) 1, sgV (g + 2) 2, sgV (g + 3) 3, sgV (g + 4) 4][j]? = some u → w.cell? ((⟨b, 0, none⟩ : Addr).add j) = some u := by
  intro j u hj
  rw [Addr.add_lit, Nat.zero_add]
  match j, hj with
  | 0, hj => simp at hj; subst hj; exact h 0 (by omega)
  | 1, hj => simp at hj; subst hj; exact h 1 (by omega)
  | 2, hj => simp at hj; subst hj; exact h 2 (by omega)
  | 3, hj => simp at hj; subst hj; exact h 3 (by omega)
  | 4, hj => simp at hj; subst hj; exact h 4 (by omega)
  | j + 5, hj => simp at hj
set_option maxHeartbeats 4000000 in
set_option maxRecDepth 100000 in
theorem clone_any (g b c : Nat) (w : World) (h : ∀ k, k ≤ 4 → w.cell? ⟨b, k, none⟩ = some (sgV (g + k) k)) :
    Calls Tryz.prog 164 #[.slice (some ⟨b, 0, none⟩) 5 c] w fun e w' => ∃ b' c', e = .returned (.slice (some ⟨b', 0, none⟩) 5 c') ∧ Below w.heap.size w w' ∧ (∀ k, k ≤ 4 → w'.cell? ⟨b', k, none⟩ = some (sgV (g + k) k)) ∧ w.heap.size ≤ b' := by
  obtain ⟨i0, hi0, hz0, hz1, hz2⟩ := info_parts Tryz.infoStrs
  have hown : (w.alloc (.cells #[] 44)).ownsRow w.heap.size 44 1 (.slice (some ⟨w.heap.size, 0, none⟩) 0 0) 0 [] := ⟨rfl, .inr ⟨w.heap.size, 0, #[], rfl, Nat.le_refl _, heap_alloc_new w _, Nat.le_refl _, by unfold maxLen; omega, rfl, rfl⟩⟩
  have hnil : ∀ w : World, (binOp .eql 182 (.slice (some ⟨b, 0, none⟩) 5 c) (.slice none 0 0)).run Tryz.prog w = .ok (.bool false) w := fun _ => by kernel_rfl
  have HO := Lib.hid hown
  have HC := Lib.hid h
  clear hown h
  go_enter Tryz.func164, Tryz.ntmps164
  go_wp2_with (first | (at_builtin; refine wpList_append_fresh _ rfl (.tmp 5) (.tmp 6) 182 rfl (w.heap.size) 44 i0 (.slice none 0 0) 1 24 Tryz.underlying182 hi0 hz0 hz1 hz2 rfl (by decide) _ _ _ rfl HO.out ⟨b, 0, none⟩ 5 c [sgV g 0, sgV (g + 1) 1, sgV (g + 2) 2, sgV (g + 3) 3, sgV (g + 4) 4] rfl rfl (sg_cells fun k hk => al_cell (HC.out k hk) _) (fun x hx => by simp at hx; rcases hx with rfl | rfl | rfl | rfl | rfl <;> rfl) (by unfold maxLen; omega) (by omega) (by simp) ?_; intro v' w1 hown' hgrow hfresh))
  rcases hown'.2 with ⟨_, h0⟩ | ⟨b', cap, cur, rfl, hbb, hh, hrest⟩
  · omega
  · go_wp2_with fail
    go_ret
    refine ⟨b', cap, rfl, ?_, fun k hk => ?_, hbb⟩
    · exact Below.grown ((Below.refl _ _).alloc (Nat.le_refl _) _) hgrow (by simp) (fun j hj => (HO.out.lt j hj).1)
    · have hc := hown'.cells (g := b') rfl
      match k, hk with
      | 0, _ => exact hc 0 _ rfl
      | 1, _ => exact hc 1 _ rfl
      | 2, _ => exact hc 2 _ rfl
      | 3, _ => exact hc 3 _ rfl
      | 4, _ => exact hc 4 _ rfl
end Go.Proofs.YtpbkeamjdolpgaaGreatDoor
namespace Go.Proofs.YtpbkeamjdolpgaaGreatDoor

abbrev FlI := Nat × Int × List UInt8
def parseT (ts : List Tk) (L : Nat) : Except FlI (List Nd) := match stmtsP ts L 8192 8192 [] 0 with
  | .out => .error (270, 0, [])
  | .bad q => .error (270, (placeT ts L q : Int), textT ts q)
  | .ok l _ => match deepL l 1 with
    | some x => .error (3, x.pos, x.name)
    | none => .ok l
/-- What tree.Parse tells. -/
def parseR (s : List UInt8) : Except FlI (List Nd) := match tokensL s with
  | .error f => .error (f.1, (f.2.1 : Int), f.2.2)
  | .ok ts => parseT ts s.length

/-! ### No more nodes than tokens -/
theorem szL_snoc : ∀ (l : List Nd) (x : Nd), szL (l ++ [x]) = szL l + szN x
  | [], x => by show szN x + 0 = 0 + szN x; omega
  | y :: l, x => by
    show szN y + szL (l ++ [x]) = szN y + szL l + szN x
    rw [szL_snoc l x]
    omega
theorem szL_one (x : Nd) : szL [x] = szN x := rfl
theorem szL_two (x y : Nd) : szL [x, y] = szN x + szN y := rfl
theorem szL_three (x y z : Nd) : szL [x, y, z] = szN x + (szN y + szN z) := rfl
theorem szN_mk (k : Int) (n : List UInt8) (l : List Nd) (p : Int) : szN (.mk k n l p) = szL l + 1 := by rw [szN]
def Szn (p : Nat) (R : Res Nd) : Prop := ∀ x q, R = .ok x q → p + szN x ≤ q
theorem bind_ok {A B : Type} {R : Res A} {f : A → Nat → Res B} {b : B} {q : Nat} (h : R.bind f = .ok b q) : ∃ a r, R = .ok a r ∧ f a r = .ok b q := by
  cases R with
  | out => cases h
  | bad p => cases h
  | ok a r => exact ⟨a, r, rfl, h⟩
section
variable {ts : List Tk} {L : Nat}
theorem take_ok {s : List UInt8} {p q a : Nat} (h : takeP ts L s p = .ok a q) : q = p + 1 := by
  unfold takeP at h
  split at h
  · cases h; rfl
  · cases h
theorem name_ok {p q : Nat} {s : List UInt8} (h : nameP ts p = .ok s q) : q = p + 1 := by
  unfold nameP at h
  split at h
  · cases h; rfl
  · cases h
theorem sz_nameN (p : Nat) : Szn p (nameN ts L p) := by
  intro x q h
  obtain ⟨s, r, h1, h2⟩ := bind_ok h
  have := name_ok h1
  cases h2
  rw [szN_mk]
  show p + (0 + 1) ≤ q
  omega
theorem sz_rowM {one : Nat → Res Nd} (h1 : ∀ p, Szn p (one p)) {e : List UInt8} : ∀ (f : Nat) (acc : List Nd) (q : Nat) (l : List Nd) (r : Nat), rowM ts L one f e acc q = .ok l r → q + szL l + 1 ≤ r + szL acc
  | 0, _, _, _, _, h => by cases h
  | f + 1, acc, q, l, r, h => by
    unfold rowM at h
    split at h
    · cases h; omega
    · obtain ⟨_, r1, a1, h⟩ := bind_ok h
      obtain ⟨x, r2, a2, h⟩ := bind_ok h
      have := take_ok a1
      have := h1 _ x r2 a2
      have := sz_rowM h1 f (acc ++ [x]) r2 l r h
      rw [szL_snoc] at this
      omega
theorem sz_rowG {one : Nat → Res Nd} (h1 : ∀ p, Szn p (one p)) {e : List UInt8} {f p : Nat} {l : List Nd} {r : Nat} (h : rowG ts L one f e p = .ok l r) : p + szL l + 1 ≤ r := by
  unfold rowG at h
  split at h
  · cases h
    show p + 0 + 1 ≤ p + 1
    omega
  · obtain ⟨x, r2, a2, h⟩ := bind_ok h
    have := h1 _ x r2 a2
    have := sz_rowM h1 f [x] r2 l r h
    rw [szL_one] at this
    omega
theorem sz_params (f p : Nat) : Szn p (paramsP ts L f p) := by
  intro x q h
  obtain ⟨_, r1, a1, h⟩ := bind_ok h
  obtain ⟨l, r2, a2, h⟩ := bind_ok h
  have := take_ok a1
  have := sz_rowG sz_nameN a2
  cases h
  rw [szN_mk]
  omega
variable {ex : Nat → Res Nd} (hx : ∀ p, Szn p (ex p))
include hx
theorem sz_args (f p : Nat) : Szn p (argsO ts L ex f p) := by
  intro x q h
  obtain ⟨_, r1, a1, h⟩ := bind_ok h
  obtain ⟨l, r2, a2, h⟩ := bind_ok h
  have := take_ok a1
  have := sz_rowG hx a2
  cases h
  rw [szN_mk]
  omega
theorem sz_atom (f p : Nat) : Szn p (atomO ts L ex f p) := by
  intro x q h
  unfold atomO at h
  split at h
  · obtain ⟨y, r1, a1, h⟩ := bind_ok h
    obtain ⟨_, r2, a2, h⟩ := bind_ok h
    have := take_ok a2
    have := hx _ y r1 a1
    cases h
    omega
  · split at h
    · obtain ⟨l, r1, a1, h⟩ := bind_ok h
      have := sz_rowG hx a1
      cases h
      rw [szN_mk]
      omega
    · split at h
      · cases h
        rw [szN_mk]
        show p + (0 + 1) ≤ p + 1
        omega
      · obtain ⟨s, r1, a1, h⟩ := bind_ok h
        have := name_ok a1
        split at h
        · obtain ⟨a, r2, a2, h⟩ := bind_ok h
          have := sz_args hx f _ a r2 a2
          cases h
          rw [szN_mk, szL_one]
          omega
        · cases h
          rw [szN_mk]
          show p + (0 + 1) ≤ q
          omega
theorem sz_index : ∀ (f : Nat) (x : Nd) (q : Nat) (y : Nd) (r : Nat), indexL ts L ex f x q = .ok y r → q + szN y ≤ r + szN x
  | 0, _, _, _, _, h => by cases h
  | f + 1, x, q, y, r, h => by
    unfold indexL at h
    split at h
    · obtain ⟨z, r1, a1, h⟩ := bind_ok h
      obtain ⟨_, r2, a2, h⟩ := bind_ok h
      have := take_ok a2
      have := hx _ z r1 a1
      have := sz_index f _ r2 y r h
      rw [szN_mk, szL_two] at this
      omega
    · cases h; omega
theorem sz_unary (F : Nat) : ∀ (f p : Nat), Szn p (unaryL ts L ex F f p)
  | 0, _ => fun _ _ h => by cases h
  | f + 1, p => by
    intro x q h
    unfold unaryL at h
    split at h
    · obtain ⟨y, r1, a1, h⟩ := bind_ok h
      have := sz_unary F f _ y r1 a1
      cases h
      rw [szN_mk, szL_one]
      omega
    · obtain ⟨y, r1, a1, h⟩ := bind_ok h
      have := sz_atom hx F p y r1 a1
      have := sz_index hx F y r1 x q h
      omega
omit hx in
theorem sz_levelM {tight : Nat → Res Nd} (ht : ∀ p, Szn p (tight p)) (k : Nat) : ∀ (f : Nat) (x : Nd) (q : Nat) (y : Nd) (r : Nat), levelM ts L tight k f x q = .ok y r → q + szN y ≤ r + szN x
  | 0, _, _, _, _, h => by cases h
  | f + 1, x, q, y, r, h => by
    unfold levelM at h
    split at h
    · obtain ⟨z, r1, a1, h⟩ := bind_ok h
      have := ht _ z r1 a1
      split at h
      · cases h
        rw [szN_mk, szL_two]
        omega
      · have := sz_levelM ht k f _ r1 y r h
        rw [szN_mk, szL_two] at this
        omega
    · cases h; omega
theorem sz_lev (f : Nat) : ∀ (d p : Nat), Szn p (levO ts L ex f d p)
  | 0, p => sz_unary hx f f p
  | d + 1, p => by
    intro x q h
    obtain ⟨y, r1, a1, h⟩ := bind_ok h
    have := sz_lev f d p y r1 a1
    have := sz_levelM (sz_lev f d) _ f y r1 x q h
    omega
theorem sz_exprO (f p : Nat) : Szn p (exprO ts L ex f p) := by
  intro x q h
  unfold exprO at h
  obtain ⟨y, r1, a1, h⟩ := bind_ok h
  have := sz_lev hx f 5 p y r1 a1
  split at h
  · obtain ⟨z, r2, a2, h⟩ := bind_ok h
    obtain ⟨_, r3, a3, h⟩ := bind_ok h
    obtain ⟨u, r4, a4, h⟩ := bind_ok h
    have := hx _ z r2 a2
    have := take_ok a3
    have := hx _ u r4 a4
    cases h
    rw [szN_mk, szL_three]
    omega
  · cases h; omega
omit hx in
theorem sz_expr : ∀ (f p : Nat), Szn p (exprP ts L f p)
  | 0, _ => fun _ _ h => by cases h
  | f + 1, p => sz_exprO (sz_expr f) f p
variable {st : Nat → Res Nd} (hs : ∀ p, Szn p (st p))
include hs
omit hx in
theorem sz_blockL : ∀ (f : Nat) (acc : List Nd) (q : Nat) (l : List Nd) (r : Nat), blockL ts st f acc q = .ok l r → q + szL l + 1 ≤ r + szL acc
  | 0, _, _, _, _, h => by cases h
  | f + 1, acc, q, l, r, h => by
    unfold blockL at h
    split at h
    · cases h; omega
    · obtain ⟨x, r2, a2, h⟩ := bind_ok h
      have := hs _ x r2 a2
      have := sz_blockL f (acc ++ [x]) r2 l r h
      rw [szL_snoc] at this
      omega
omit hx in
theorem sz_block (f p : Nat) : Szn p (blockO ts L st f p) := by
  intro x q h
  obtain ⟨_, r1, a1, h⟩ := bind_ok h
  obtain ⟨l, r2, a2, h⟩ := bind_ok h
  have := take_ok a1
  have := sz_blockL hs f [] r1 l r2 a2
  have e : szL ([] : List Nd) = 0 := rfl
  cases h
  rw [szN_mk]
  omega
theorem sz_stmtO (f p : Nat) : Szn p (stmtO ts L ex st f p) := by
  intro x q h
  unfold stmtO at h
  split at h
  · obtain ⟨s, r1, a1, h⟩ := bind_ok h
    obtain ⟨y, r2, a2, h⟩ := bind_ok h
    obtain ⟨z, r3, a3, h⟩ := bind_ok h
    have := name_ok a1
    have := sz_params f _ y r2 a2
    have := sz_block hs f _ z r3 a3
    cases h
    rw [szN_mk, szL_two]
    omega
  · split at h
    · obtain ⟨s, r1, a1, h⟩ := bind_ok h
      obtain ⟨y, r2, a2, h⟩ := bind_ok h
      obtain ⟨_, r3, a3, h⟩ := bind_ok h
      obtain ⟨z, r4, a4, h⟩ := bind_ok h
      obtain ⟨_, r5, a5, h⟩ := bind_ok h
      have := name_ok a1
      have := sz_params f _ y r2 a2
      have := take_ok a3
      have := hx _ z r4 a4
      have := take_ok a5
      cases h
      rw [szN_mk, szL_two]
      omega
    · split at h
      · obtain ⟨_, r1, a1, h⟩ := bind_ok h
        obtain ⟨s, r2, a2, h⟩ := bind_ok h
        obtain ⟨_, r3, a3, h⟩ := bind_ok h
        obtain ⟨y, r4, a4, h⟩ := bind_ok h
        obtain ⟨_, r5, a5, h⟩ := bind_ok h
        obtain ⟨z, r6, a6, h⟩ := bind_ok h
        have := take_ok a1
        have := name_ok a2
        have := take_ok a3
        have := hx _ y r4 a4
        have := take_ok a5
        have := sz_block hs f _ z r6 a6
        cases h
        rw [szN_mk, szL_two]
        omega
      · split at h
        · obtain ⟨_, r1, a1, h⟩ := bind_ok h
          obtain ⟨y, r2, a2, h⟩ := bind_ok h
          obtain ⟨_, r3, a3, h⟩ := bind_ok h
          obtain ⟨z, r4, a4, h⟩ := bind_ok h
          have := take_ok a1
          have := hx _ y r2 a2
          have := take_ok a3
          have := sz_block hs f _ z r4 a4
          split at h
          · obtain ⟨u, r5, a5, h⟩ := bind_ok h
            have := sz_block hs f _ u r5 a5
            cases h
            rw [szN_mk, szL_three]
            omega
          · cases h
            rw [szN_mk, szL_two]
            omega
        · obtain ⟨s, r1, a1, h⟩ := bind_ok h
          have := name_ok a1
          split at h
          · obtain ⟨y, r2, a2, h⟩ := bind_ok h
            obtain ⟨_, r3, a3, h⟩ := bind_ok h
            have := hx _ y r2 a2
            have := take_ok a3
            cases h
            rw [szN_mk, szL_one]
            omega
          · obtain ⟨y, r2, a2, h⟩ := bind_ok h
            have := sz_args hx f _ y r2 a2
            split at h
            · obtain ⟨z, r3, a3, h⟩ := bind_ok h
              have := sz_block hs f _ z r3 a3
              cases h
              rw [szN_mk, szL_two]
              omega
            · obtain ⟨_, r3, a3, h⟩ := bind_ok h
              have := take_ok a3
              cases h
              rw [szN_mk, szL_one]
              omega
omit hx hs in
theorem sz_stmt (F : Nat) : ∀ (f p : Nat), Szn p (stmtP ts L F f p)
  | 0, _ => fun _ _ h => by cases h
  | f + 1, p => sz_stmtO (sz_expr F) (sz_stmt F f) F p
omit hx hs in
theorem sz_stmts (F : Nat) : ∀ (f : Nat) (acc : List Nd) (q : Nat) (l : List Nd) (r : Nat), stmtsP ts L F f acc q = .ok l r → q + szL l ≤ r + szL acc
  | 0, _, _, _, _, h => by cases h
  | f + 1, acc, q, l, r, h => by
    unfold stmtsP at h
    split at h
    · cases h; omega
    · obtain ⟨x, r2, a2, h⟩ := bind_ok h
      have := sz_stmt F F q x r2 a2
      have := sz_stmts F f (acc ++ [x]) r2 l r h
      rw [szL_snoc] at this
      omega
end
theorem len_szL : ∀ l : List Nd, l.length ≤ szL l
  | [] => Nat.le_refl _
  | x :: l => by
    obtain ⟨k, n, kids, p⟩ := x
    have := len_szL l
    show l.length + 1 ≤ szN _ + szL l
    rw [szN_mk]
    omega
/-- A text's statements are at most 4096 nodes. -/
theorem parse_sz {ts : List Tk} {L F f : Nat} {l : List Nd} {r : Nat} (hF : ts.length + 1 < F) (hf : ts.length < f) (h : stmtsP ts L F f [] 0 = .ok l r) : szL l ≤ ts.length := by
  have h1 := sz_stmts F f [] 0 l r h
  have h2 := gd_stmts (ts := ts) (L := L) hF f [] 0 (Nat.zero_le _) (by omega)
  rw [h] at h2
  have e : szL ([] : List Nd) = 0 := rfl
  have := h2.2
  omega
end Go.Proofs.YtpbkeamjdolpgaaGreatDoor
namespace Go.Proofs.YtpbkeamjdolpgaaGreatDoor

mutual
def wtN : Nd → Nat
  | .mk _ n kids _ => wtL kids + n.length + 1
def wtL : List Nd → Nat
  | [] => 0
  | x :: r => wtN x + wtL r
end
theorem wtN_mk (k : Int) (n : List UInt8) (l : List Nd) (p : Int) : wtN (.mk k n l p) = wtL l + n.length + 1 := by rw [wtN]
theorem wtL_mem : ∀ {l : List Nd} {x : Nd}, x ∈ l → wtN x ≤ wtL l
  | y :: r, x, h => by
    show wtN x ≤ wtN y + wtL r
    rcases List.mem_cons.1 h with rfl | h
    · omega
    · have := wtL_mem h; omega
mutual
theorem sz_wtN : ∀ x : Nd, szN x ≤ wtN x
  | .mk _ _ kids _ => by
    rw [szN_mk, wtN_mk]
    have := sz_wtL kids
    omega
theorem sz_wtL : ∀ l : List Nd, szL l ≤ wtL l
  | [] => Nat.le_refl _
  | x :: r => by
    have := sz_wtN x
    have := sz_wtL r
    show szN x + szL r ≤ wtN x + wtL r
    omega
end
theorem len_wtL (l : List Nd) : l.length ≤ wtL l := Nat.le_trans (len_szL l) (sz_wtL l)
theorem wtL_app : ∀ (a b : List Nd), wtL (a ++ b) = wtL a + wtL b
  | [], b => by
    show wtL b = 0 + wtL b
    omega
  | x :: a, b => by
    show wtN x + wtL (a ++ b) = wtN x + wtL a + wtL b
    rw [wtL_app a b]
    omega
/-- What is known of the parts of a tree. -/
theorem kid_wt {k : Int} {n : List UInt8} {l : List Nd} {p : Int} {x : Nd} (h : x ∈ l) : wtN x < wtN (.mk k n l p) := by
  have := wtL_mem h
  rw [wtN_mk]
  omega
end Go.Proofs.YtpbkeamjdolpgaaGreatDoor
namespace Go.Proofs.YtpbkeamjdolpgaaGreatDoor
open Go.RowKit Go.Lib

theorem ret_i64 {a b : Int} (h : a = b) : Ending.returned (.int .i64 a) = .returned (.int .i64 b) := by rw [h]
/-- What is known of the listed variables. -/
def Gl (w : World) : Prop :=
  Lib.TabIs Tryz.prog w "unicode.properties" .u8 Lib.propertiesTab ∧ RVar 2 letterT w ∧ RVar 3 digitT w ∧ Lib.Utf8Tabs 4 5 w
theorem Gl.below {w w' : World} (h : Gl w) (hb : Below w.heap.size w w') : Gl w' :=
  ⟨TabIs_below (g := 1) (by kernel_rfl) h.1 hb, RVar_below h.2.1 hb, RVar_below h.2.2.1 hb, Utf8Tabs_below h.2.2.2 hb⟩

/-- What run asks of its function. -/
def RunFn (g : Nat) (p : Nat → Nat → Bool) (n : Nat) (w : World) : Prop :=
  ∀ (W : World) (i x : Nat), i ≤ n → x ≤ 1114111 → Below w.heap.size w W → Calls Tryz.prog g #[.int .i64 i, .int .i32 x] W fun e w' => e = .returned (.bool (p i x)) ∧ Below W.heap.size W w'

set_option maxHeartbeats 2000000 in
set_option maxRecDepth 1000000 in
theorem run_any (g : Nat) (eg : ∀ args w, (callFunc g args).run Tryz.prog w = .ok (.enter g args) w) (p : Nat → Nat → Bool) (s : ByteArray) (w : World) (hs : s.size ≤ maxLen) (hp : RunFn g p s.size w) :
    Calls Tryz.prog 119 #[.string s, .func (.func g) #[] #[]] w fun e w' => e = .returned (.int .i64 (runL p s.size 0 s.data.toList)) ∧ Below w.heap.size w w' := by
  unfold maxLen at hs
  go_enter Tryz.func119, Tryz.ntmps119
  go_wp2
  go_loopg [] s.size (fun gf wx => ∃ pos : Nat, wx.heap[w.heap.size]? = some (.stringIter s pos) ∧ Below w.heap.size w wx ∧ Hid (pos + runL p gf pos (s.data.toList.drop pos) = runL p s.size 0 s.data.toList) ∧ pos ≤ s.size ∧ s.size ≤ pos + gf)
  case atStart => exact ⟨0, World.iter_heap w s 0, (Below.refl _ w).alloc (Nat.le_refl _) _, Lib.hid (by simp), by omega, by omega⟩
  case round =>
    obtain ⟨pos, hit, hbw, hleft, hpl, hfu⟩ := hrel
    by_cases hps : pos < s.size
    · obtain ⟨g', rfl⟩ : ∃ g', gk = g' + 1 := ⟨gk - 1, by omega⟩
      have hnx : ∀ ty, (Instr.next (.pointer (some ⟨w.heap.size, 0, none⟩)) true ty).run Tryz.prog wr = _ := fun ty => Lib.run_next_any_at wr w.heap.size s pos ty hit hps
      rw [decode_dec] at hnx
      obtain ⟨l, hl⟩ : ∃ l, s.data.toList.drop pos = l := ⟨_, rfl⟩
      have hln : l.length = s.size - pos := by rw [← hl, List.length_drop, ← Lib.size_eq]
      have hlne : l ≠ [] := by intro e; rw [e] at hln; simp at hln; omega
      have hk1 := dec_ge1 l
      have hk2 := dec_le l hlne
      have hr := dec_rune l
      have hpre : Lib.hasPrefix (s.extract pos s.size).data.toList [239, 191, 189] = Lib.hasPrefix l [239, 191, 189] := by rw [Lib.extract_to_end, hl]
      have herr := err_prefix l
      have hbad : ¬ (dec l).1 = 65533 → badL l = false := fun h => by unfold badL; simp [h]
      have hdrop : ∀ K, s.data.toList.drop (pos + K) = l.drop K := fun K => by rw [← hl, List.drop_drop]
      have hrun : runL p (g' + 1) pos l = if badL l then 0 else if p pos (dec l).1 then (dec l).2 + runL p g' (pos + (dec l).2) (l.drop (dec l).2) else 0 := by
        rw [runL, if_neg hlne]
      rw [hl, hrun] at hleft
      rw [hl] at hnx
      obtain ⟨R, hR⟩ : ∃ R, (dec l).1 = R := ⟨_, rfl⟩
      obtain ⟨K, hK⟩ : ∃ K, (dec l).2 = K := ⟨_, rfl⟩
      rw [hR, hK] at hleft
      rw [hR, hK] at hnx
      rw [hK] at hk1 hk2
      rw [hR] at hr herr hbad
      rw [← hdrop] at hleft
      have hit2 := Lib.iterAt_heap wr w.heap.size s pos (pos + K) hit
      have hbw2 := Lib.below_iterAt hbw (k := w.heap.size) (Nat.le_refl _) s (pos + K)
      obtain ⟨W, hWd⟩ : ∃ W, wr.iterAt w.heap.size s (pos + K) = W := ⟨_, rfl⟩
      rw [hWd] at hnx hit2 hbw2
      have hltW : w.heap.size < W.heap.size := (Array.getElem?_eq_some_iff.1 hit2).1
      have cS := hp W pos R hpl hr hbw2
      have cH := Tryz.strings_HasPrefix (s.extract pos s.size) ⟨#[239, 191, 189]⟩ W
      rw [hpre] at cH
      clear hp hpre hrun hK hWd hit hbw hlne
      by_cases h3 : R = 65533
      · have H3 : ((R : Int) == 65533) = true := by simp [h3]
        rw [herr h3] at cH
        clear herr hbad h3 hR
        cases hb : badL l <;> rw [hb] at cH hleft <;> simp only [Bool.not_false, Bool.not_true, if_true, Bool.false_eq_true, if_false] at cH hleft
        · cases hsp : p pos R <;> rw [hsp] at cS hleft <;> simp only [if_true, Bool.false_eq_true, if_false] at hleft
          · have HL := hleft
            clear hleft hdrop hl hsp hb
            go_wp2_with (first | (go_at_call 71; refine cH.mono ?_; rintro e W' ⟨rfl, rfl⟩) | (go_at_fn g; refine cS.mono ?_; rintro e W' ⟨rfl, hbc⟩))
            go_ret
            exact ⟨ret_i64 (by rw [← HL.out]; rfl), (hbw2.trans (hbc.mono hbw2.size))⟩
          · have HL := hleft
            clear hleft hdrop hl hsp hb
            go_wp2_with (first | (go_at_call 71; refine cH.mono ?_; rintro e W' ⟨rfl, rfl⟩) | (go_at_fn g; refine cS.mono ?_; rintro e W' ⟨rfl, hbc⟩))
            go_roundg g'
            case measure => omega
            case rel => exact ⟨pos + K, (hbc.block _ hltW).trans hit2, (hbw2.trans (hbc.mono hbw2.size)), Lib.hid (by rw [← HL.out]; omega), by omega, by omega⟩
        · have HL := hleft
          clear hleft hdrop hl hb cS
          go_wp2_with (first | (go_at_call 71; refine cH.mono ?_; rintro e W' ⟨rfl, rfl⟩))
          go_ret
          exact ⟨ret_i64 (by rw [← HL.out]; rfl), hbw2⟩
      · have H3 : ((R : Int) == 65533) = false := by simp; omega
        have hb := hbad h3
        clear herr hbad h3 hR cH
        rw [hb] at hleft
        simp only [Bool.false_eq_true, if_false] at hleft
        cases hsp : p pos R <;> rw [hsp] at cS hleft <;> simp only [if_true, Bool.false_eq_true, if_false] at hleft
        · have HL := hleft
          clear hleft hdrop hl hsp hb
          go_wp2_with (first | (go_at_fn g; refine cS.mono ?_; rintro e W' ⟨rfl, hbc⟩))
          go_ret
          exact ⟨ret_i64 (by rw [← HL.out]; rfl), (hbw2.trans (hbc.mono hbw2.size))⟩
        · have HL := hleft
          clear hleft hdrop hl hsp hb
          go_wp2_with (first | (go_at_fn g; refine cS.mono ?_; rintro e W' ⟨rfl, hbc⟩))
          go_roundg g'
          case measure => omega
          case rel => exact ⟨pos + K, (hbc.block _ hltW).trans hit2, (hbw2.trans (hbc.mono hbw2.size)), Lib.hid (by rw [← HL.out]; omega), by omega, by omega⟩
    · have hnx : ∀ ty, (Instr.next (.pointer (some ⟨w.heap.size, 0, none⟩)) true ty).run Tryz.prog wr = _ := fun ty => Lib.run_next_end_at wr w.heap.size s pos ty hit hps
      have hnil : s.data.toList.drop pos = [] := by rw [List.drop_eq_nil_iff, ← Lib.size_eq]; omega
      have hps2 : pos = s.size := by omega
      have hL := hleft.out
      rw [hnil, runL_nil] at hL
      have HL := Lib.hid hL
      clear hL hleft hnil hp
      go_wp2
      go_ret
      exact ⟨ret_i64 (by rw [← HL.out, hps2]; rfl), hbw⟩
end Go.Proofs.YtpbkeamjdolpgaaGreatDoor
namespace Go.Proofs.YtpbkeamjdolpgaaGreatDoor
open Go.RowKit Go.Lib

theorem ret_bool {a b : Bool} (h : a = b) : Ending.returned (.bool a) = .returned (.bool b) := by rw [h]

set_option maxHeartbeats 1000000 in
theorem w2_any (i x : Nat) (w : World) : Calls Tryz.prog 123 #[.int .i64 i, .int .i32 x] w fun e w' => e = .returned (.bool (isDg i x)) ∧ Below w.heap.size w w' := by
  unfold isDg
  have hb := Below.refl w.heap.size w
  by_cases h1 : 48 ≤ x
  · by_cases h2 : x ≤ 57
    · have a1 : decide ((x : Int) ≥ 48) = true := by simp; omega
      have a2 : decide ((x : Int) ≤ 57) = true := by simp; omega
      go_enter Tryz.func123, Tryz.ntmps123
      go_wp2
      go_ret
      exact ⟨ret_bool (by simp [h1, h2]), hb⟩
    · have a1 : decide ((x : Int) ≥ 48) = true := by simp; omega
      have a2 : decide ((x : Int) ≤ 57) = false := by simp; omega
      go_enter Tryz.func123, Tryz.ntmps123
      go_wp2
      go_ret
      exact ⟨ret_bool (by simp [h1, h2]), hb⟩
  · have a1 : decide ((x : Int) ≥ 48) = false := by simp; omega
    go_enter Tryz.func123, Tryz.ntmps123
    go_wp2
    go_ret
    exact ⟨ret_bool (by simp [h1]), hb⟩

set_option maxHeartbeats 1000000 in
theorem w1_any (i x : Nat) (hx : x ≤ 1114111) (w : World) (hG : Gl w) : Calls Tryz.prog 120 #[.int .i64 i, .int .i32 x] w fun e w' => e = .returned (.bool (isNm i x)) ∧ Below w.heap.size w w' := by
  have cL := Tryz.unicode_IsLetter_all (x : Int) w (by omega) (by omega) hG.1 hG.2.1
  have cD := fun (w' : World) (hb : Below w.heap.size w w') => Tryz.unicode_IsDigit_all (x : Int) w' (by omega) (by omega) (hG.below hb).2.2.1
  clear hG
  by_cases h1 : x = 95
  · have H1 : ((x : Int) == 95) = true := by simp; omega
    have hn : isNm i x = true := by simp [isNm, h1]
    clear h1 cL cD
    go_enter Tryz.func120, Tryz.ntmps120
    go_wp2
    go_ret
    exact ⟨ret_bool (by rw [hn]), Below.refl _ _⟩
  · have H1 : ((x : Int) == 95) = false := by simp; omega
    have hn : isNm i x = (Lib.isLetterU x || (decide (0 < i) && Lib.isDigitU x)) := by
      have hx : (x == 95) = false := by simpa using h1
      simp [isNm, hx]
    rw [hn]
    clear h1 hn
    cases hl : Lib.isLetterU x <;> rw [hl] at cL
    · by_cases h0 : 0 < i
      · have H0 : decide ((i : Int) > 0) = true := by simp; omega
        obtain ⟨d, hd⟩ : ∃ d, Lib.isDigitU x = d := ⟨_, rfl⟩
        rw [hd] at cD ⊢
        clear hl hd
        go_enter Tryz.func120, Tryz.ntmps120
        go_wp2_with (first | (go_at_call 121; refine cL.mono ?_; rintro e w' ⟨rfl, hb⟩) | (go_at_call 122; refine (cD _ hb).mono ?_; rintro e w2 ⟨rfl, hb2⟩))
        all_goals go_ret
        all_goals exact ⟨ret_bool (by simp [h0]), hb.trans (hb2.mono hb.size)⟩
      · have H0 : decide ((i : Int) > 0) = false := by simp; omega
        clear hl cD
        go_enter Tryz.func120, Tryz.ntmps120
        go_wp2_with (first | (go_at_call 121; refine cL.mono ?_; rintro e w' ⟨rfl, hb⟩))
        go_ret
        exact ⟨ret_bool (by simp [h0]), hb⟩
    · clear hl cD
      go_enter Tryz.func120, Tryz.ntmps120
      go_wp2_with (first | (go_at_call 121; refine cL.mono ?_; rintro e w' ⟨rfl, hb⟩))
      go_ret
      exact ⟨ret_bool (by simp), hb⟩

end Go.Proofs.YtpbkeamjdolpgaaGreatDoor
