/- The walk of tree.kinds. The walks of tree.part, and of its closure. Where the tokens of a text stand. Plain laws: words do not look beyond a blank; the tokens of two texts on two lines. Plain: a token cut out of a text is that token; blanks and comments. Plain: the tokens of a text that is put together of words and blanks. Plain: the words of a tree, and that they are the words of its text. The walk of tree.expression. The walk of tree.expression: signs, numbers, and what is none. The walks of the parser's atoms and signs of one. The walk of the parser's blocks. Expressions and statements of any depth. The closure at tree.Parse's door; what stands at the head of its loop. The walk of tree.Parse over a text that has tokens. The walks of tree.statement, tree.Check. The walks of tree.tight; what the printer's functions do. errors.As at a target of *api.Fault, by its contracts: of nil, and of a *api.Fault. After the kit's worked example ToyasAs. errors.Is of a fault and its code. What is known of errors.errorType. The statements' Text: an error's text. The walk of the printer's expr: names, numbers. The walk of the printer's expr: choices. The walk of the printer's expr: parts. The walk of the printer's expr: signs before. The walk of the printer's expr: comparisons. What the Scope rows share: from the listed variables to the facts that the walks ask; a world that meets the condition. Plain: the texts of a list, rising, each once. Plain: what stands by name, and what a walk over a tree finds. What stands by name, in memory: closures. The walks of scope's truth, with, within, and of what they make. Maps that scope makes: what takes how many arguments; names that were met. The walk of scope.rising: a map's names, in order. The walks of scope.functions and scope.modules: what is built in. What scope's walk keeps between two steps, what its methods promise; the walk of its missing. -/
import Derived.Test.YtpbkeamjdolpgaaGreatDoorZa01
import Derived.BigQuiet
import Derived.Deep.QuietTactic
import Derived.Lib.QuietBelow
import Derived.Lib.SpaceUEq
import Derived.Deep.RegionHeld3
import Derived.Deep.RegionLaw
import Derived.Deep.RegionWith
import Derived.RegionDies
import Derived.Deep.AppendLies
import Derived.Laws.EntriesVeiled
import Derived.Deep.CutRange
import Derived.RangeFuncNested
import Derived.RangeFuncBound
import Derived.RangeFuncCalls
import Derived.RangeFuncLeaves
import Derived.Shelf.Abstract
import Derived.OwnWalkIn
import Derived.TacticsInMore
import Derived.LoopNIn
import Derived.LoopIn
import Derived.Defers
import Derived.Recover
import Derived.OneCell
import Derived.Laws.Pointers
import Derived.LaidEql
import Derived.Stop.Asserts
import Derived.RowKitTokens
import Derived.Test.YtpbkeamjdolpgaaGreatDoorShelfI
import Derived.StillTailTactics
import Derived.Test.YtpbkeamjdolpgaaGreatDoorRows
import Derived.ProofKit
import Derived.ChangeSame
import Derived.ChangeVars
import Derived.JoinedOf
import Derived.RowKit
import Derived.LaidLaws
import Derived.LaidHandle
import Derived.LaidSub
import Derived.PinnedBridge
import Derived.Lay
import Derived.SizedLaws
import Derived.Stop.Joined
import Derived.Lib.LaidU8
import Derived.Lib.LaidRTab
import Derived.Maps.OwnOps
import Derived.Maps.OwnSet
import Derived.Maps.Views
import Derived.StringKeys
import Derived.Test.YtpbkeamjdolpgaaGreatDoorShelfS
import Derived.Shelf.Slices.In.SortNone
import Derived.Maps.RangeWalk
import Derived.Sort.KeysCollected
import Derived.Sort.OwnSorted
import Derived.Deep.Cut
import Derived.WideShapes4
namespace Go.Proofs.YtpbkeamjdolpgaaGreatDoor
open Go.RowKit Go.Lib Go.Shelf Go.Sort

def tstR (w : Int) (x : Nd) : Bool := if w < 0 then exR x else decide (x.kind = w) && partR x
theorem shR_take : ∀ (ws : List Int) (l : List Nd), l.length ≤ ws.length → (shR (ws.take l.length) l = true ↔ ∀ (i : Nat) (w : Int) (x : Nd), ws[i]? = some w → l[i]? = some x → tstR w x = true)
  | ws, [], _ => by
    rw [List.length_nil, List.take_zero]
    exact ⟨fun _ i w x _ h => by simp at h, fun _ => rfl⟩
  | [], x :: l, h => by simp at h
  | w :: ws, x :: l, h => by
    have ih := shR_take ws l (by simp at h; omega)
    have e : shR ((w :: ws).take (x :: l).length) (x :: l) = (tstR w x && shR (ws.take l.length) l) := rfl
    rw [e, Bool.and_eq_true, ih]
    constructor
    · rintro ⟨h1, h2⟩ i v y hv hy
      cases i with
      | zero =>
        cases hv
        cases hy
        exact h1
      | succ i => exact h2 i v y (by simpa using hv) (by simpa using hy)
    · intro h
      exact ⟨h 0 w x rfl rfl, fun i v y hv hy => h (i + 1) v y (by simpa using hv) (by simpa using hy)⟩
theorem shR_len : ∀ (ws : List Int) (l : List Nd), shR ws l = true → ws.length = l.length
  | [], [], _ => rfl
  | [], _ :: _, h => by cases h
  | _ :: _, [], h => by cases h
  | w :: ws, x :: l, h => by
    have e : (tstR w x && shR ws l) = true := h
    rw [Bool.and_eq_true] at e
    rw [List.length_cons, List.length_cons, shR_len ws l e.2]
def kindsR (short : Bool) (ws : List Int) (l : List Nd) : Bool := (decide (l.length = ws.length) || (short && decide (l.length + 1 = ws.length))) && shR (ws.take l.length) l
def IntRow (w : World) (g : Nat) (ws : List Int) : Prop := ∀ j u, ws[j]? = some u → w.cell? ⟨g, j, none⟩ = some (.int .i64 u)
theorem IntRow.below {w w' : World} {g : Nat} {ws : List Int} (h : IntRow w g ws) (hb : Below w.heap.size w w') : IntRow w' g ws :=
  fun j u hj => (hb.cell (p := ⟨g, j, none⟩) (World.block_lt_of_cell? w _ (h j u hj))).trans (h j u hj)
set_option maxHeartbeats 4000000 in
set_option maxRecDepth 100000 in
theorem kinds_no (short : Bool) (n m : Nat) (_hn : n < 2 ^ 62) (hm : m ≤ 3) (h1 : n ≠ m) (h2 : short = true → n + 1 ≠ m) (y : Option Addr) (c g cm : Nat) (w : World) :
    Calls Tryz.prog 93 #[.slice y n c, .bool short, .slice (some ⟨g, 0, none⟩) m cm] w fun e w' => e = .returned (.bool false) ∧ w = w' := by
  have Q1 : ((n : Int) != (m : Int)) = true := by rw [bne_iff_ne]; omega
  have Q2 : short = true → ((n : Int) == (m : Int) - 1) = false := fun h => beq_eq_false_iff_ne.2 (by have := h2 h; omega)
  have Q3 : IntKind.i64.wrap ((m : Int) - 1) = (m : Int) - 1 := IntWalk.i64_in _ (by omega)
  cases short
  · clear Q2 h1 h2
    go_enter Tryz.func93, Tryz.ntmps93
    go_wp2_with fail
    go_ret
    exact ⟨rfl, rfl⟩
  · have Q4 := Q2 rfl
    clear Q2 h1 h2
    go_enter Tryz.func93, Tryz.ntmps93
    go_wp2_with fail
    go_ret
    exact ⟨rfl, rfl⟩
set_option maxHeartbeats 8000000 in
set_option maxRecDepth 100000 in
theorem kinds_yes (ok : Nat → Prop) (short : Bool) (ws : List Int) (m : Nat) (hm : ws.length = m) (hm3 : m ≤ 3) (l : List Nd) (n : Nat) (hl : l.length = n) (hs : n = m ∨ short = true ∧ n + 1 = m) (y : Option Addr) (c g cm : Nat) (w : World) (hrow : NdRow w ok l y) (hi : IntRow w g ws) (h : ∀ x ∈ l, OneQ 147 [] ok exR w x ∧ OneQ 148 [] ok partR w x) :
    Calls Tryz.prog 93 #[.slice y n c, .bool short, .slice (some ⟨g, 0, none⟩) m cm] w (Yes (shR (ws.take n) l) w) := by
  have hnm : n ≤ m := by omega
  have Q1 : ((n : Int) != (m : Int)) = false ∨ (((n : Int) != (m : Int)) = true ∧ short = true ∧ ((n : Int) == (m : Int) - 1) = true) := by
    rcases hs with h | ⟨h1, h2⟩
    · left; rw [bne_eq_false_iff_eq]; omega
    · right; exact ⟨by rw [bne_iff_ne]; omega, h1, beq_iff_eq.2 (by omega)⟩
  have Q3 : IntKind.i64.wrap ((m : Int) - 1) = (m : Int) - 1 := IntWalk.i64_in _ (by omega)
  have hsh := shR_take ws l (by omega)
  rw [hl] at hsh
  obtain ⟨R, hR⟩ : ∃ R, shR (ws.take n) l = R := ⟨_, rfl⟩
  rw [hR] at hsh ⊢
  have HSH := Lib.hid hsh
  have HL := Lib.hid hl
  have HM := Lib.hid hm
  have HROW := Lib.hid hrow
  have HI := Lib.hid hi
  have HH := Lib.hid h
  clear h hrow hi hl hm hsh hR hs
  have eg := enters_of Tryz.func147 (by kernel_rfl) rfl
  go_enter Tryz.func93, Tryz.ntmps93
  rcases Q1 with Q1 | ⟨Q1, rfl, Q2⟩
  all_goals (
    go_wp2_with fail
    go_loopw [27] (fun v wx => ∃ i : Nat, v = .int .i64 i ∧ i ≤ n ∧ Below w.heap.size w wx ∧ Hid (∀ (j : Nat) (u : Int) (x : Nd), j < i → ws[j]? = some u → l[j]? = some x → tstR u x = true)) (fun v _ => n - (RowKit.intOf v).toNat)
    case atStart => exact ⟨0, rfl, Nat.zero_le _, Below.refl _ _, fun j u x hj => by omega⟩
    case round =>
      obtain ⟨i, rfl, hin, hb, hf⟩ := hrel
      by_cases hlt : i < n
      · obtain ⟨x, hx⟩ : ∃ u, l[i]? = some u := ⟨l[i]'(by have := HL.out; omega), List.getElem?_eq_getElem _⟩
        obtain ⟨wi, hwi⟩ : ∃ u, ws[i]? = some u := ⟨ws[i]'(by have := HM.out; omega), List.getElem?_eq_getElem _⟩
        obtain ⟨B, o, rfl, hat⟩ := (HROW.out.below hb).at_ hx
        obtain ⟨k, nm, z, kids, cc, p, rfl, x0, x1, x2, x3, hk⟩ := hat.val
        have w0 := (HI.out.below hb) i wi hwi
        have c1 := (HH.out _ (List.mem_of_getElem? hx)).1 (.agg #[.int .i64 k, .string ⟨nm.toArray⟩, .slice z kids.length cc, .int .i64 p])
        have c2 := (HH.out _ (List.mem_of_getElem? hx)).2 (.agg #[.int .i64 k, .string ⟨nm.toArray⟩, .slice z kids.length cc, .int .i64 p])
        simp only [List.append_toArray, List.cons_append, List.nil_append] at c1 c2
        have HWN : Hid (∀ wx, Below wr.heap.size wr wx → wx.cell? ⟨g, i, none⟩ = some (.int .i64 wi)) := fun wx h => ((HI.out.below (tr hb h)) i wi hwi)
        have hi1 : (i : Int) < (n : Int) := by omega
        have hi2 : (i : Int) < (m : Int) := by omega
        have Qi : IntKind.i64.wrap ((i : Int) + 1) = (i : Int) + 1 := IntWalk.i64_in _ (by omega)
        have HNX : Hid (tstR wi (.mk k nm kids p) = true → ∀ (j : Nat) (u : Int) (x : Nd), j < i + 1 → ws[j]? = some u → l[j]? = some x → tstR u x = true) := fun ht j u x' hj hu hx' => by
          by_cases e : j = i
          · subst e
            rw [hwi] at hu
            rw [hx] at hx'
            cases hu
            cases hx'
            exact ht
          · exact hf.out j u x' (by omega) hu hx'
        have HNO : Hid (tstR wi (.mk k nm kids p) = false → R = false) := fun ht => by
          cases hR : R
          · rfl
          · have := HSH.out.1 hR i wi _ hwi hx
            rw [ht] at this
            cases this
        have C1 := Lib.hid (fun wx (h : Below wr.heap.size wr wx) => c1 wx (tr hb h) ⟨z, cc, rfl, hk.below h⟩)
        have C2 := Lib.hid (fun wx (h : Below wr.heap.size wr wx) => c2 wx (tr hb h) ⟨z, cc, rfl, hk.below h⟩)
        clear hk hat c1 c2 hwi hx hf
        by_cases hw : wi < 0
        · have Qw : decide (wi < 0) = true := by simp; omega
          have Qw2 : decide (0 ≤ wi) = false := by simp; omega
          have Qw3 : decide (wi ≥ 0) = false := by simp; omega
          have ht : Hid (tstR wi (.mk k nm kids p) = exR (.mk k nm kids p)) := by
            show tstR wi _ = _
            unfold tstR
            rw [if_pos hw]
          cases hE : exR (.mk k nm kids p)
          · have HN := Lib.hid (HNO.out (by rw [ht.out, hE]))
            have C3 : Hid (∀ wx, Below wr.heap.size wr wx → Calls Tryz.prog 147 #[.agg #[.int .i64 k, .string ⟨nm.toArray⟩, .slice z kids.length cc, .int .i64 p]] wx (Yes false wx)) := fun wx h => by
              have := C1.out wx h
              rw [hE] at this
              exact this
            clear hE ht HNO HNX C1 C2
            go_wp2_with fail
            have cE := fun d os => Calls.regrown_of (C3.out _ (below_regrown wr d os))
            have y0 := cell_regrown x0
            have y1 := cell_regrown x1
            have y2 := cell_regrown x2
            have y3 := cell_regrown x3
            have y4 := cell_regrown w0
            refine wp_region_quiet_below (by kernel_rfl) (by kernel_rfl) ?_
            repeat (go_big_quiet_step (exact cE _ _))
            refine wpQuiet_nil ?_
            intro _ hw'
            obtain ⟨⟨dq, osq⟩, hw''⟩ := hw'
            subst hw''
            have hb2 := below_regrown wr dq osq
            generalize grow (redrawn wr dq) osq = w2 at *
            clear y0 y1 y2 y3 y4 cE
            all_goals (
              go_wp2_with fail
              go_ret
              exact ⟨by rw [HN.out]; rfl, tr hb hb2⟩)
          · have HN := Lib.hid (HNX.out (by rw [ht.out, hE]))
            have C3 : Hid (∀ wx, Below wr.heap.size wr wx → Calls Tryz.prog 147 #[.agg #[.int .i64 k, .string ⟨nm.toArray⟩, .slice z kids.length cc, .int .i64 p]] wx (Yes true wx)) := fun wx h => by
              have := C1.out wx h
              rw [hE] at this
              exact this
            clear hE ht HNO HNX C1 C2
            go_wp2_with fail
            have cE := fun d os => Calls.regrown_of (C3.out _ (below_regrown wr d os))
            have y0 := cell_regrown x0
            have y1 := cell_regrown x1
            have y2 := cell_regrown x2
            have y3 := cell_regrown x3
            have y4 := cell_regrown w0
            refine wp_region_quiet_below (by kernel_rfl) (by kernel_rfl) ?_
            repeat (go_big_quiet_step (exact cE _ _))
            refine wpQuiet_nil ?_
            intro _ hw'
            obtain ⟨⟨dq, osq⟩, hw''⟩ := hw'
            subst hw''
            have hb2 := below_regrown wr dq osq
            generalize grow (redrawn wr dq) osq = w2 at *
            clear y0 y1 y2 y3 y4 cE
            all_goals (
              go_wp2_with fail
              go_roundw
              case rel => exact ⟨i + 1, by go_num, by omega, tr hb hb2, HN⟩
              case measure => simp [RowKit.intOf]; omega)
        · have Qw : decide (wi < 0) = false := by simp; omega
          have Qw2 : decide (0 ≤ wi) = true := by simp; omega
          have Qw3 : decide (wi ≥ 0) = true := by simp; omega
          by_cases hkw : k = wi
          · have ht : Hid (tstR wi (.mk k nm kids p) = partR (.mk k nm kids p)) := by
              show tstR wi _ = _
              unfold tstR
              rw [if_neg hw, show (Nd.mk k nm kids p).kind = k from rfl, hkw]
              simp
            have Qk : (k != wi) = false := by rw [bne_eq_false_iff_eq]; exact hkw
            cases hE : partR (.mk k nm kids p)
            · have HN := Lib.hid (HNO.out (by rw [ht.out, hE]))
              have C3 : Hid (∀ wx, Below wr.heap.size wr wx → Calls Tryz.prog 148 #[.agg #[.int .i64 k, .string ⟨nm.toArray⟩, .slice z kids.length cc, .int .i64 p]] wx (Yes false wx)) := fun wx h => by
                have := C2.out wx h
                rw [hE] at this
                exact this
              clear hE ht HNO HNX C1 C2 hkw
              go_wp2_with fail
              have cE := fun d os => Calls.regrown_of (C3.out _ (below_regrown wr d os))
              have y0 := cell_regrown x0
              have y1 := cell_regrown x1
              have y2 := cell_regrown x2
              have y3 := cell_regrown x3
              have y4 := cell_regrown w0
              refine wp_region_quiet_below (by kernel_rfl) (by kernel_rfl) ?_
              repeat (go_big_quiet_step (exact cE _ _))
              refine wpQuiet_nil ?_
              intro _ hw'
              obtain ⟨⟨dq, osq⟩, hw''⟩ := hw'
              subst hw''
              have hb2 := below_regrown wr dq osq
              generalize grow (redrawn wr dq) osq = w2 at *
              clear y0 y1 y2 y3 y4 cE
              all_goals (
                go_wp2_with fail
                go_ret
                exact ⟨by rw [HN.out]; rfl, tr hb hb2⟩)
            · have HN := Lib.hid (HNX.out (by rw [ht.out, hE]))
              have C3 : Hid (∀ wx, Below wr.heap.size wr wx → Calls Tryz.prog 148 #[.agg #[.int .i64 k, .string ⟨nm.toArray⟩, .slice z kids.length cc, .int .i64 p]] wx (Yes true wx)) := fun wx h => by
                have := C2.out wx h
                rw [hE] at this
                exact this
              clear hE ht HNO HNX C1 C2 hkw
              go_wp2_with fail
              have cE := fun d os => Calls.regrown_of (C3.out _ (below_regrown wr d os))
              have y0 := cell_regrown x0
              have y1 := cell_regrown x1
              have y2 := cell_regrown x2
              have y3 := cell_regrown x3
              have y4 := cell_regrown w0
              refine wp_region_quiet_below (by kernel_rfl) (by kernel_rfl) ?_
              repeat (go_big_quiet_step (exact cE _ _))
              refine wpQuiet_nil ?_
              intro _ hw'
              obtain ⟨⟨dq, osq⟩, hw''⟩ := hw'
              subst hw''
              have hb2 := below_regrown wr dq osq
              generalize grow (redrawn wr dq) osq = w2 at *
              clear y0 y1 y2 y3 y4 cE
              all_goals (
                go_wp2_with fail
                go_roundw
                case rel => exact ⟨i + 1, by go_num, by omega, tr hb hb2, HN⟩
                case measure => simp [RowKit.intOf]; omega)
          · have ht : tstR wi (.mk k nm kids p) = false := by
              unfold tstR
              rw [if_neg hw, show (Nd.mk k nm kids p).kind = k from rfl]
              simp [hkw]
            have Qk : (k != wi) = true := by rw [bne_iff_ne]; exact hkw
            have HN := Lib.hid (HNO.out ht)
            clear ht HNO HNX C1 C2 hkw
            go_wp2_with fail
            go_quiet (fail)
            go_wp2_with fail
            go_ret
            exact ⟨by rw [HN.out]; rfl, bdn hb _⟩
      · have hR : Hid (R = true) := HSH.out.2 fun j u x hu hx => hf.out j u x (by have := (List.getElem?_eq_some_iff.1 hx).1; have := HL.out; omega) hu hx
        have hi1 : ¬ (i : Int) < (n : Int) := by omega
        clear hf
        go_wp2_with fail
        go_ret
        exact ⟨by rw [hR.out]; rfl, hb⟩)
end Go.Proofs.YtpbkeamjdolpgaaGreatDoor
namespace Go.Proofs.YtpbkeamjdolpgaaGreatDoor
open Go.RowKit Go.Lib Go.Shelf Go.Sort

theorem exsR_all : ∀ l : List Nd, exsR l = l.all exR
  | [] => rfl
  | x :: r => by
    show (exR x && exsR r) = _
    rw [exsR_all r, List.all_cons]
theorem stsR_all : ∀ l : List Nd, stsR l = l.all stR
  | [] => rfl
  | x :: r => by
    show (stR x && stsR r) = _
    rw [stsR_all r, List.all_cons]
theorem parsR_all : ∀ l : List Nd, parsR l = l.all fun x => decide (x.kind = 10) && exR x
  | [] => rfl
  | x :: r => by
    show ((decide (x.kind = 10) && exR x) && parsR r) = _
    rw [parsR_all r, List.all_cons]
def KidsOk (ok : Nat → Prop) (w : World) (l : List Nd) : Prop := ∀ x ∈ l, OneQ 147 [] ok exR w x ∧ OneQ 52 [] ok stR w x ∧ OneQ 148 [] ok partR w x
theorem KidsOk.below {ok : Nat → Prop} {w w1 : World} {l : List Nd} (h : KidsOk ok w l) (hb : Below w.heap.size w w1) : KidsOk ok w1 l := fun x hx => ⟨(h x hx).1.below hb, (h x hx).2.1.below hb, (h x hx).2.2.below hb⟩
def ndO (k : Int) (n : List UInt8) (y : Option Addr) (m c : Nat) (p : Int) : Obj := .cells #[.int .i64 k, .string ⟨n.toArray⟩, .slice y m c, .int .i64 p] 53
set_option maxHeartbeats 4000000 in
set_option maxRecDepth 100000 in
theorem part1_any (ok : Nat → Prop) (w0 : World) (x : Nd) (h : OneQ 147 [] ok exR w0 x) : OneQ 188 [] ok (fun x => decide (x.kind = 10) && exR x) w0 x := by
  intro v w1 hb hv
  obtain ⟨k, n, kids, p⟩ := x
  obtain ⟨y, c, rfl, hrow⟩ := hv
  have hA : Below w1.heap.size w1 (w1.alloc (ndO k n y kids.length c p)) := (Below.refl _ _).alloc (Nat.le_refl _) _
  have c1 := h (.agg #[.int .i64 k, .string ⟨n.toArray⟩, .slice y kids.length c, .int .i64 p]) _ (tr hb hA) ⟨y, c, rfl, hrow.below hA⟩
  have HA := Lib.hid hA
  simp only [List.append_toArray, List.cons_append, List.nil_append] at c1
  show Calls _ _ _ _ (Yes (decide (k = 10) && exR (.mk k n kids p)) w1)
  obtain ⟨B, hB⟩ : ∃ B, exR (.mk k n kids p) = B := ⟨_, rfl⟩
  rw [hB] at c1 ⊢
  simp only [List.append_toArray, List.cons_append, List.nil_append]
  unfold ndO at c1
  clear h hrow hB hb hA
  by_cases hk : k = 10
  · subst hk
    go_enter Tryz.func188, Tryz.ntmps188
    go_wp2_with fail
    refine c1.mono ?_
    clear c1
    rintro e w2 ⟨rfl, hb2⟩
    go_wp2_with fail
    go_ret
    exact ⟨by simp, tr HA.out hb2⟩
  · have Q : (k == 10) = false := beq_eq_false_iff_ne.2 hk
    have e : (decide (k = 10) && B) = false := by simp [hk]
    rw [e]
    clear hk e c1
    go_enter Tryz.func188, Tryz.ntmps188
    go_wp2_with fail
    go_ret
    exact ⟨rfl, HA.out⟩
set_option maxHeartbeats 4000000 in
set_option maxRecDepth 100000 in
theorem part_any (ok : Nat → Prop) (w0 : World) (k : Int) (n : List UInt8) (kids : List Nd) (p : Int) (hl : kids.length < 2 ^ 62) (h : KidsOk ok w0 kids) : OneQ 148 [] ok partR w0 (.mk k n kids p) := by
  intro v w1 hb hv
  obtain ⟨y, c, rfl, hrow⟩ := hv
  have hA : Below w1.heap.size w1 (w1.alloc (ndO k n y kids.length c p)) := (Below.refl _ _).alloc (Nat.le_refl _) _
  have e1 := enters_of Tryz.func147 (by kernel_rfl) rfl
  have e2 := enters_of Tryz.func52 (by kernel_rfl) rfl
  have e3 := enters_of Tryz.func188 (by kernel_rfl) rfl
  have hK := (h.below hb).below hA
  have c1 := all_any 147 e1 ok exR kids kids.length rfl hl y c _ (hrow.below hA) (fun x hx => (hK x hx).1)
  have c2 := all_any 52 e2 ok stR kids kids.length rfl hl y c _ (hrow.below hA) (fun x hx => (hK x hx).2.1)
  have c3 := all_any 188 e3 ok (fun x => decide (x.kind = 10) && exR x) kids kids.length rfl hl y c _ (hrow.below hA) (fun x hx => part1_any ok _ x (hK x hx).1)
  rw [← exsR_all] at c1
  rw [← stsR_all] at c2
  rw [← parsR_all] at c3
  have HA := Lib.hid hA
  show Calls _ _ _ _ (Yes (n.isEmpty && (if k = 0 then stsR kids else if k = 4 then parsR kids else exsR kids)) w1)
  simp only [List.append_toArray, List.cons_append, List.nil_append]
  unfold ndO at c1 c2 c3
  obtain ⟨B1, hB1⟩ : ∃ B, exsR kids = B := ⟨_, rfl⟩
  obtain ⟨B2, hB2⟩ : ∃ B, stsR kids = B := ⟨_, rfl⟩
  obtain ⟨B3, hB3⟩ : ∃ B, parsR kids = B := ⟨_, rfl⟩
  rw [hB1] at c1 ⊢
  rw [hB2] at c2 ⊢
  rw [hB3] at c3 ⊢
  clear h hrow hB1 hB2 hB3 hb hA hK
  by_cases hn : n = []
  · subst hn
    by_cases hk : k = 0
    · subst hk
      clear c1 c3
      go_enter Tryz.func148, Tryz.ntmps148
      go_wp2_with fail
      refine c2.mono ?_
      clear c2
      rintro e w2 ⟨rfl, hb2⟩
      go_wp2_with fail
      go_ret
      exact ⟨by simp, tr HA.out hb2⟩
    · have Q : (k == 0) = false := beq_eq_false_iff_ne.2 hk
      by_cases hk4 : k = 4
      · subst hk4
        clear c1 c2
        go_enter Tryz.func148, Tryz.ntmps148
        go_wp2_with fail
        refine c3.mono ?_
        clear c3
        rintro e w2 ⟨rfl, hb2⟩
        go_wp2_with fail
        go_ret
        exact ⟨by simp, tr HA.out hb2⟩
      · have Q4 : (k == 4) = false := beq_eq_false_iff_ne.2 hk4
        rw [if_neg hk, if_neg hk4]
        clear c2 c3 hk hk4
        go_enter Tryz.func148, Tryz.ntmps148
        go_wp2_with fail
        refine c1.mono ?_
        clear c1
        rintro e w2 ⟨rfl, hb2⟩
        go_wp2_with fail
        go_ret
        exact ⟨by simp, tr HA.out hb2⟩
  · have e : n.isEmpty = false := by simpa using hn
    rw [e, Bool.false_and]
    have Q : (n == []) = false := beq_eq_false_iff_ne.2 hn
    have Qd : ((k == 0) = true ∧ (k == 4) = false) ∨ ((k == 0) = false ∧ (k == 4) = true) ∨ ((k == 0) = false ∧ (k == 4) = false) := by
      by_cases h0 : k = 0
      · subst h0; exact .inl ⟨rfl, rfl⟩
      · by_cases h4 : k = 4
        · subst h4; exact .inr (.inl ⟨rfl, rfl⟩)
        · exact .inr (.inr ⟨beq_eq_false_iff_ne.2 h0, beq_eq_false_iff_ne.2 h4⟩)
    clear c1 c2 c3
    rcases Qd with ⟨Q0, Q4⟩ | ⟨Q0, Q4⟩ | ⟨Q0, Q4⟩
    all_goals (
      go_enter Tryz.func148, Tryz.ntmps148
      go_wp2_with fail
      go_ret
      exact ⟨rfl, HA.out⟩)
end Go.Proofs.YtpbkeamjdolpgaaGreatDoor
namespace Go.Proofs.YtpbkeamjdolpgaaGreatDoor
open Go.RowKit Go.Lib

/-! ### Where tokens stand -/
theorem skipB_take : ∀ (b : Bool) (l : List UInt8), skipB b (l.take (skipB b l)) = skipB b l
  | b, [] => by cases b <;> rfl
  | true, c :: r => by
    have h1 := skipB_take true r
    have h2 := skipB_take false r
    by_cases h : c = 10
    · rw [skipB, if_pos h, Nat.add_comm, List.take_succ_cons, skipB, if_pos h, h2, Nat.add_comm]
    · rw [skipB, if_neg h, Nat.add_comm, List.take_succ_cons, skipB, if_neg h, h1, Nat.add_comm]
  | false, c :: r => by
    have h1 := skipB_take true r
    have h2 := skipB_take false r
    have e0 : skipB false (c :: r) = if isBl c then 1 + skipB false r else if c = 47 ∧ r.head? = some 47 then 1 + skipB true r else 0 := by rw [skipB]
    have e1 : ∀ q, skipB false (c :: q) = if isBl c then 1 + skipB false q else if c = 47 ∧ q.head? = some 47 then 1 + skipB true q else 0 := fun q => by rw [skipB]
    rw [e0]
    by_cases hb : isBl c = true
    · rw [if_pos hb, Nat.add_comm, List.take_succ_cons, e1, if_pos hb, h2, Nat.add_comm]
    · rw [if_neg hb]
      by_cases h : c = 47 ∧ r.head? = some 47
      · rw [if_pos h, Nat.add_comm, List.take_succ_cons, e1, if_neg hb]
        have hp : 0 < skipB true r := by
          cases r with
          | nil => simp at h
          | cons d r => unfold skipB; split <;> omega
        have hh : (r.take (skipB true r)).head? = r.head? := by
          cases r with
          | nil => simp
          | cons d r => obtain ⟨m, hm⟩ : ∃ m, skipB true (d :: r) = m + 1 := ⟨skipB true (d :: r) - 1, by omega⟩; rw [hm]; rfl
        rw [hh, if_pos h, h1, Nat.add_comm]
      · rw [if_neg h]
        rfl

def PlOk (s : List UInt8) : Nat → List Tk → Prop
  | e, [] => skipL (s.drop e) = (s.drop e).length
  | e, t :: ts => e ≤ t.2.2 ∧ skipL ((s.drop e).take (t.2.2 - e)) = t.2.2 - e ∧ t.2.1 ≠ [] ∧ t.2.2 + t.2.1.length ≤ s.length ∧ (s.drop t.2.2).take t.2.1.length = t.2.1 ∧ PlOk s (t.2.2 + t.2.1.length) ts

theorem toksL_places (s : List UInt8) : ∀ (f n e : Nat) (ts : List Tk), (s.drop e).length ≤ f → e ≤ s.length →
    toksL f n (e + skipL (s.drop e)) (s.drop (e + skipL (s.drop e))) = .ok ts → PlOk s e ts
  | 0, n, e, ts, hf, he, h => by
    simp only [toksL, Except.ok.injEq] at h
    subst h
    have : s.drop e = [] := List.eq_nil_of_length_eq_zero (by omega)
    unfold PlOk
    rw [this]
    rfl
  | f + 1, n, e, ts, hf, he, h => by
    have hsk : skipL (s.drop e) ≤ (s.drop e).length := skipB_le _ _
    have htk : skipL ((s.drop e).take (skipL (s.drop e))) = skipL (s.drop e) := skipB_take false _
    obtain ⟨q, hq⟩ : ∃ q, skipL (s.drop e) = q := ⟨_, rfl⟩
    rw [hq] at h hsk htk
    rw [List.length_drop] at hsk hf
    by_cases hl : s.drop (e + q) = []
    · rw [toksL, if_pos hl] at h
      cases h
      unfold PlOk
      rw [hq, List.length_drop]
      have := congrArg List.length hl
      simp at this
      omega
    · rw [toksL_step _ _ _ _ hl] at h
      have hw := wordL_le (s.drop (e + q))
      rw [List.length_drop] at hw
      obtain ⟨m, hm⟩ : ∃ m, (wordL (s.drop (e + q))).2 = m := ⟨_, rfl⟩
      obtain ⟨k, hk⟩ : ∃ k, (wordL (s.drop (e + q))).1 = k := ⟨_, rfl⟩
      rw [hm, hk] at h
      rw [hm] at hw
      by_cases h0 : m = 0
      · rw [if_pos h0] at h; cases h
      · rw [if_neg h0] at h
        by_cases h1 : n = 4096
        · rw [if_pos h1] at h; cases h
        · rw [if_neg h1, List.drop_drop] at h
          have hdd : ∀ x, (s.drop (e + q)).drop x = s.drop (e + q + x) := fun x => by rw [List.drop_drop]
          rw [hdd] at h
          obtain ⟨X, hX⟩ : ∃ X, toksL f (n + 1) (e + q + m + skipL (s.drop (e + q + m))) (s.drop (e + q + (m + skipL (s.drop (e + q + m))))) = X := ⟨_, rfl⟩
          rw [hX] at h
          cases X with
          | error x => cases h
          | ok us =>
            cases h
            have hlen : ((s.drop (e + q)).take m).length = m := by rw [List.length_take, List.length_drop]; omega
            have ih := toksL_places s f (n + 1) (e + q + m) us (by rw [List.length_drop]; omega) (by omega) (by rw [← hX]; congr 2; omega)
            unfold PlOk
            refine ⟨by simp only; omega, ?_, ?_, ?_, ?_, ?_⟩
            · simp only
              rw [show e + q - e = q by omega]
              exact htk
            · simp only
              intro h2
              rw [h2] at hlen
              simp at hlen
              omega
            · simp only
              rw [hlen]
              omega
            · simp only
              rw [hlen]
            · simp only
              rw [hlen]
              exact ih
theorem tokensL_places (s : List UInt8) (ts : List Tk) (h : tokensL s = .ok ts) : PlOk s 0 ts := by
  unfold tokensL at h
  split at h
  · cases h
  · have := toksL_places s s.length 0 0 ts (by simp) (Nat.zero_le _) (by simpa using h)
    exact this
theorem toksL_len : ∀ (f n p : Nat) (l : List UInt8) (ts : List Tk), n ≤ 4096 → toksL f n p l = .ok ts → n + ts.length ≤ 4096
  | 0, n, p, l, ts, hn, h => by
    simp only [toksL, Except.ok.injEq] at h
    subst h
    simpa using hn
  | f + 1, n, p, l, ts, hn, h => by
    by_cases hl : l = []
    · rw [toksL, if_pos hl] at h
      cases h
      simpa using hn
    · rw [toksL_step _ _ _ _ hl] at h
      by_cases h0 : (wordL l).2 = 0
      · rw [if_pos h0] at h; cases h
      · rw [if_neg h0] at h
        by_cases h1 : n = 4096
        · rw [if_pos h1] at h; cases h
        · rw [if_neg h1] at h
          obtain ⟨X, hX⟩ : ∃ X, toksL f (n + 1) (p + (wordL l).2 + skipL (l.drop (wordL l).2)) (l.drop ((wordL l).2 + skipL (l.drop (wordL l).2))) = X := ⟨_, rfl⟩
          rw [hX] at h
          cases X with
          | error x => cases h
          | ok us =>
            cases h
            have := toksL_len f (n + 1) _ _ us (by omega) hX
            simp only [List.length_cons]
            omega
theorem tokensL_len (s : List UInt8) (ts : List Tk) (h : tokensL s = .ok ts) : ts.length ≤ 4096 := by
  unfold tokensL at h
  split at h
  · cases h
  · have := toksL_len _ _ _ _ _ (Nat.zero_le _) h
    omega
end Go.Proofs.YtpbkeamjdolpgaaGreatDoor
namespace Go.Proofs.YtpbkeamjdolpgaaGreatDoor
open Go.RowKit Go.Lib

theorem dec_app (l : List UInt8) (c : UInt8) (r : List UInt8) (hl : l ≠ []) (hc : c.toNat < 128) : dec (l ++ c :: r) = dec l := by
  have h2 : ¬ c.toNat / 64 = 2 := by omega
  unfold dec Lib.decodeN bt
  match l, hl with
  | [a], _ => simp [h2]
  | [a, b], _ => simp [h2]
  | [a, b, d], _ => simp [h2]
  | a :: b :: d :: e :: q, _ =>
    have e1 : (a :: b :: d :: e :: q ++ c :: r).length = q.length + 4 + (r.length + 1) := by simp; omega
    have e2 : (a :: b :: d :: e :: q).length = q.length + 4 := by simp
    rw [e1, e2]
    have g1 : 1 < q.length + 4 + (r.length + 1) := by omega
    have g2 : 2 < q.length + 4 + (r.length + 1) := by omega
    have g3 : 3 < q.length + 4 + (r.length + 1) := by omega
    have g4 : 1 < q.length + 4 := by omega
    have g5 : 2 < q.length + 4 := by omega
    have g6 : 3 < q.length + 4 := by omega
    simp [g1, g2, g3, g4, g5, g6]
theorem dec_small (c : UInt8) (r : List UInt8) (hc : c.toNat < 128) : dec (c :: r) = (c.toNat, 1) := by
  rcases dec_shape (c :: r) with ⟨_, h⟩ | ⟨h, _⟩
  · exact h
  · have : bt (c :: r) 0 = c.toNat := rfl
    omega
theorem runL_app (p : Nat → Nat → Bool) (c : UInt8) (r : List UInt8) (hc : c.toNat < 128) (hp : ∀ j, p j c.toNat = false) : ∀ (f i : Nat) (l : List UInt8), l.length < f → runL p f i (l ++ c :: r) = runL p f i l
  | 0, i, l, h => by omega
  | f + 1, i, [], h => by
    rw [List.nil_append, runL_nil, runL, if_neg (by simp)]
    have hb : badL (c :: r) = false := by unfold badL; rw [dec_small c r hc]; simp; omega
    rw [hb, if_neg (by simp), dec_small c r hc]
    simp only
    rw [hp, if_neg (by simp)]
  | f + 1, i, a :: l, h => by
    have hd := dec_app (a :: l) c r (by simp) hc
    have h1 := dec_le (a :: l) (by simp)
    have h2 := dec_ge1 (a :: l)
    have hb : badL (a :: l ++ c :: r) = badL (a :: l) := by unfold badL; rw [hd]
    rw [runL, if_neg (show ¬ (a :: l ++ c :: r) = [] by simp), runL, if_neg (show ¬ (a :: l) = [] by simp), hb, hd]
    have hdr : (a :: l ++ c :: r).drop (dec (a :: l)).2 = (a :: l).drop (dec (a :: l)).2 ++ c :: r := List.drop_append_of_le_length h1
    rw [hdr, runL_app p c r hc hp f _ _ (by rw [List.length_drop]; omega)]
theorem pre_app (l : List UInt8) (c : UInt8) (r : List UInt8) (hl : l ≠ []) (t : List UInt8) (ht : t.length ≤ 2) (hc : t[1]? ≠ some c) : Lib.hasPrefix (l ++ c :: r) t = Lib.hasPrefix l t := by
  unfold Lib.hasPrefix
  match l, hl, t, ht, hc with
  | a :: l, _, [], _, _ => rfl
  | a :: l, _, [x], _, _ => simp [List.isPrefixOf]
  | [a], _, [x, y], _, hc =>
    have : ¬ y = c := fun h => hc (by simp [h])
    simp [List.isPrefixOf, this]
  | a :: b :: l, _, [x, y], _, _ => simp [List.isPrefixOf]
theorem signIn_app (l : List UInt8) (c : UInt8) (r : List UInt8) (hl : l ≠ []) : ∀ ts : List (List UInt8), (∀ t ∈ ts, t.length ≤ 2 ∧ t[1]? ≠ some c) → signIn (l ++ c :: r) ts = signIn l ts
  | [], _ => rfl
  | t :: ts, h => by
    have h1 := h t (List.mem_cons_self ..)
    rw [signIn, signIn, pre_app l c r hl t h1.1 h1.2, signIn_app l c r hl ts (fun u hu => h u (List.mem_cons_of_mem _ hu))]
def scanL (f n p : Nat) (l : List UInt8) : Except Flt (List Tk) := toksL f n (p + skipL l) (l.drop (skipL l))
theorem PlOk_at (s : List UInt8) : ∀ (ts : List Tk) (e i : Nat) (u : Tk), PlOk s e ts → ts[i]? = some u → u.2.2 + u.2.1.length ≤ s.length
  | [], e, i, u, _, h => by simp at h
  | t :: ts, e, 0, u, hp, h => by
    simp at h
    subst h
    exact hp.2.2.2.1
  | t :: ts, e, i + 1, u, hp, h => PlOk_at s ts _ i u hp.2.2.2.2.2 (by simpa using h)
theorem tokensL_at (s : List UInt8) (ts : List Tk) (h : tokensL s = .ok ts) (i : Nat) (u : Tk) (hu : ts[i]? = some u) : u.2.2 + u.2.1.length ≤ s.length :=
  PlOk_at s ts 0 i u (tokensL_places s ts h) hu
end Go.Proofs.YtpbkeamjdolpgaaGreatDoor
namespace Go.Proofs.YtpbkeamjdolpgaaGreatDoor
open Go.RowKit Go.Lib

/-! ### A token cut out of a text is that token -/
theorem decN_cut (n m b0 b1 b2 b3 : Nat) (c1 c2 c3 : Nat) (h : (decodeN n b0 b1 b2 b3).2 ≤ m) (hb : decodeN n b0 b1 b2 b3 ≠ (65533, 1)) (hn : m ≤ n)
    (e1 : 1 < m → c1 = b1) (e2 : 2 < m → c2 = b2) (e3 : 3 < m → c3 = b3) : decodeN m b0 c1 c2 c3 = decodeN n b0 b1 b2 b3 := by
  unfold decodeN at h hb ⊢
  by_cases k0 : b0 < 128
  · rw [if_pos k0, if_pos k0]
  · rw [if_neg k0] at h hb ⊢
    rw [if_neg k0]
    by_cases k1 : b0 / 32 = 6 ∧ (1 < n ∧ b1 / 64 = 2)
    · rw [if_pos k1] at h hb ⊢
      by_cases v : b0 % 32 * 64 + b1 % 64 ≥ 128
      · rw [if_pos v] at h ⊢
        have h2 : 2 ≤ m := h
        have E1 := e1 (by omega)
        subst E1
        rw [if_pos ⟨k1.1, by omega, k1.2.2⟩, if_pos v]
      · rw [if_neg v] at hb
        exact absurd rfl hb
    · rw [if_neg k1] at h hb ⊢
      rw [if_neg (fun q => k1 ⟨q.1, by omega, by rw [← e1 q.2.1]; exact q.2.2⟩)]
      by_cases k2 : b0 / 16 = 14 ∧ (1 < n ∧ b1 / 64 = 2) ∧ (2 < n ∧ b2 / 64 = 2)
      · rw [if_pos k2] at h hb ⊢
        by_cases v : b0 % 16 * 4096 + b1 % 64 * 64 + b2 % 64 ≥ 2048 ∧ (b0 % 16 * 4096 + b1 % 64 * 64 + b2 % 64 < 55296 ∨ (57344 ≤ b0 % 16 * 4096 + b1 % 64 * 64 + b2 % 64 ∧ b0 % 16 * 4096 + b1 % 64 * 64 + b2 % 64 ≤ 1114111))
        · rw [if_pos v] at h ⊢
          have h3 : 3 ≤ m := h
          have E1 := e1 (by omega)
          have E2 := e2 (by omega)
          subst E1 E2
          rw [if_pos ⟨k2.1, ⟨by omega, k2.2.1.2⟩, by omega, k2.2.2.2⟩, if_pos v]
        · rw [if_neg v] at hb
          exact absurd rfl hb
      · rw [if_neg k2] at h hb ⊢
        rw [if_neg (fun q => k2 ⟨q.1, ⟨by omega, by rw [← e1 q.2.1.1]; exact q.2.1.2⟩, by omega, by rw [← e2 q.2.2.1]; exact q.2.2.2⟩)]
        by_cases k3 : b0 / 8 = 30 ∧ (1 < n ∧ b1 / 64 = 2) ∧ (2 < n ∧ b2 / 64 = 2) ∧ (3 < n ∧ b3 / 64 = 2)
        · rw [if_pos k3] at h hb ⊢
          by_cases v : b0 % 8 * 262144 + b1 % 64 * 4096 + b2 % 64 * 64 + b3 % 64 ≥ 65536 ∧ (b0 % 8 * 262144 + b1 % 64 * 4096 + b2 % 64 * 64 + b3 % 64 < 55296 ∨ (57344 ≤ b0 % 8 * 262144 + b1 % 64 * 4096 + b2 % 64 * 64 + b3 % 64 ∧ b0 % 8 * 262144 + b1 % 64 * 4096 + b2 % 64 * 64 + b3 % 64 ≤ 1114111))
          · rw [if_pos v] at h ⊢
            have h4 : 4 ≤ m := h
            have E1 := e1 (by omega)
            have E2 := e2 (by omega)
            have E3 := e3 (by omega)
            subst E1 E2 E3
            rw [if_pos ⟨k3.1, ⟨by omega, k3.2.1.2⟩, ⟨by omega, k3.2.2.1.2⟩, by omega, k3.2.2.2.2⟩, if_pos v]
          · rw [if_neg v] at hb
            exact absurd rfl hb
        · rw [if_neg k3] at hb
          exact absurd rfl hb
theorem bt_take (l : List UInt8) (m k : Nat) (h : k < m) : bt (l.take m) k = bt l k := by
  unfold bt
  rw [List.getElem?_take, if_pos h]
theorem dec_take (l : List UInt8) (m : Nat) (hb : badL l = false) (h : (dec l).2 ≤ m) : dec (l.take m) = dec l := by
  by_cases hm : l.length ≤ m
  · rw [List.take_of_length_le hm]
  · have h1 := dec_ge1 l
    have hne : dec l ≠ (65533, 1) := by
      intro h2
      unfold badL at hb
      rw [h2] at hb
      simp at hb
    have hlen : (l.take m).length = m := by rw [List.length_take]; omega
    unfold dec at h hne ⊢
    rw [hlen, bt_take l m 0 (by unfold dec at h1; omega)]
    exact decN_cut l.length m _ _ _ _ _ _ _ h hne (by omega) (fun q => bt_take l m 1 q) (fun q => bt_take l m 2 q) (fun q => bt_take l m 3 q)
theorem bad_take (l : List UInt8) (m : Nat) (hb : badL l = false) (h : (dec l).2 ≤ m) : badL (l.take m) = false := by
  unfold badL at hb ⊢
  rw [dec_take l m (by unfold badL; exact hb) h]
  exact hb
theorem runL_take (p : Nat → Nat → Bool) : ∀ (f g i : Nat) (l : List UInt8), l.length ≤ f → runL p f i l ≤ g → runL p g i (l.take (runL p f i l)) = runL p f i l
  | 0, g, i, l, hf, _ => by
    have : l = [] := List.eq_nil_of_length_eq_zero (by omega)
    subst this
    rw [runL_nil, List.take_nil, runL_nil]
  | f + 1, g, i, l, hf, hg => by
    by_cases hl : l = []
    · subst hl
      rw [runL_nil, List.take_nil, runL_nil]
    · have e : runL p (f + 1) i l = if badL l then 0 else if p i (dec l).1 then (dec l).2 + runL p f (i + (dec l).2) (l.drop (dec l).2) else 0 := by
        rw [runL, if_neg hl]
      by_cases hb : badL l = true
      · rw [if_pos hb] at e
        rw [e, List.take_zero, runL_nil]
      · rw [if_neg hb] at e
        by_cases hp : p i (dec l).1 = true
        · rw [if_pos hp] at e
          have h1 := dec_ge1 l
          have h2 := dec_le l hl
          obtain ⟨K, hK⟩ : ∃ K, runL p f (i + (dec l).2) (l.drop (dec l).2) = K := ⟨_, rfl⟩
          have ih := fun g hg => runL_take p f g (i + (dec l).2) (l.drop (dec l).2) (by rw [List.length_drop]; omega) hg
          rw [hK] at e ih
          rw [e] at hg ⊢
          obtain ⟨g', rfl⟩ : ∃ g', g = g' + 1 := ⟨g - 1, by omega⟩
          have hb2 : badL l = false := by simpa using hb
          have ht : l.take ((dec l).2 + K) ≠ [] := by
            intro h
            have h3 := congrArg List.length h
            rw [List.length_take] at h3
            simp only [List.length_nil] at h3
            have : 0 < l.length := List.length_pos_iff.2 hl
            omega
          rw [runL, if_neg ht, bad_take l _ hb2 (by omega), dec_take l _ hb2 (by omega), if_neg (by simp), if_pos hp]
          have hd : (l.take ((dec l).2 + K)).drop (dec l).2 = (l.drop (dec l).2).take K := by
            rw [List.drop_take]
            congr 1
            omega
          rw [hd, ih g' (by omega)]
        · rw [if_neg hp] at e
          rw [e, List.take_zero, runL_nil]
theorem nameL_take (l : List UInt8) : nameL (l.take (nameL l)) = nameL l := by
  unfold nameL
  have hle := runL_le isNm l.length 0 l
  have h := runL_take isNm l.length (l.take (runL isNm l.length 0 l)).length 0 l (Nat.le_refl _) (by rw [List.length_take]; omega)
  exact h
theorem nameL_first (l : List UInt8) (h : bt l 0 < 128) (hl : l ≠ []) : (nameL l = 0) ↔ isNm 0 (bt l 0) = false := by
  have hd : dec l = (bt l 0, 1) := by
    rcases dec_shape l with ⟨_, e⟩ | ⟨k, _⟩
    · exact e
    · omega
  have hb : badL l = false := by
    unfold badL
    rw [hd]
    have : (bt l 0 == 65533) = false := beq_eq_false_iff_ne.2 (by omega)
    simp [this]
  obtain ⟨n, hn⟩ : ∃ n, l.length = n + 1 := ⟨l.length - 1, by have := List.length_pos_iff.2 hl; omega⟩
  unfold nameL
  rw [hn, runL, if_neg hl, hb, hd, if_neg (by simp)]
  dsimp only
  cases isNm 0 (bt l 0)
  · simp
  · simp
theorem nameL_zero_take (l : List UInt8) (m : Nat) (h : bt l 0 < 128) (hz : nameL l = 0) : nameL (l.take m) = 0 := by
  by_cases hl : l.take m = []
  · rw [hl]
    exact runL_nil _ _ _
  · have hm : 0 < m := by
      rcases Nat.eq_zero_or_pos m with h0 | h0
      · subst h0; exact absurd (List.take_zero) hl
      · exact h0
    have hl2 : l ≠ [] := fun h2 => hl (by rw [h2, List.take_nil])
    have h0 := bt_take l m 0 hm
    rw [nameL_first _ (by rw [h0]; exact h) hl, h0]
    exact (nameL_first l h hl2).1 hz
theorem digs_take : ∀ (l : List UInt8) (m : Nat), digs (l.take m) = min m (digs l)
  | [], m => by simp [digs]
  | c :: r, 0 => by simp [digs]
  | c :: r, m + 1 => by
    have ih := digs_take r m
    unfold digs at ih ⊢
    rw [List.take_succ_cons, List.takeWhile_cons, List.takeWhile_cons]
    cases isDb c
    · simp
    · simp only [if_true, List.length_cons, ih]
      omega
theorem numL_take (l : List UInt8) : numL (l.take (numL l)) = numL l := by
  by_cases h0 : digs l = 0
  · have e : numL l = 0 := by unfold numL; rw [if_pos h0]
    rw [e, List.take_zero]
    rfl
  · by_cases h1 : (l.drop (digs l)).head? = some 46 ∧ 0 < digs (l.drop (digs l + 1))
    · have e : numL l = digs l + (1 + digs (l.drop (digs l + 1))) := by unfold numL; rw [if_neg h0, if_pos h1]
      rw [e]
      obtain ⟨d, hd⟩ : ∃ d, digs l = d := ⟨_, rfl⟩
      rw [hd] at h1 h0 ⊢
      obtain ⟨k, hk⟩ : ∃ k, digs (l.drop (d + 1)) = k := ⟨_, rfl⟩
      rw [hk] at h1 ⊢
      have e1 : digs (l.take (d + (1 + k))) = d := by rw [digs_take, hd]; omega
      have e2 : (l.take (d + (1 + k))).drop (d + 1) = (l.drop (d + 1)).take k := by
        rw [List.drop_take]
        congr 1
        omega
      have e3 : digs ((l.take (d + (1 + k))).drop (d + 1)) = k := by rw [e2, digs_take, hk]; omega
      have e4 : ((l.take (d + (1 + k))).drop d).head? = some 46 := by
        rw [List.drop_take, show d + (1 + k) - d = k + 1 by omega]
        have h2 := h1.1
        cases hx : l.drop d with
        | nil => rw [hx] at h2; simp at h2
        | cons a b => rw [hx] at h2; simpa using h2
      unfold numL
      rw [e1, if_neg h0, e3, if_pos ⟨e4, h1.2⟩]
    · have e : numL l = digs l := by unfold numL; rw [if_neg h0, if_neg h1]
      rw [e]
      have e1 : digs (l.take (digs l)) = digs l := by rw [digs_take]; omega
      unfold numL
      rw [e1, if_neg h0, if_neg]
      rintro ⟨h2, _⟩
      rw [List.drop_take, Nat.sub_self, List.take_zero] at h2
      simp at h2
theorem signIn_some (l : List UInt8) : ∀ ts : List (List UInt8), 0 < signIn l ts → ∃ t ∈ ts, Lib.hasPrefix l t = true ∧ signIn l ts = t.length
  | [], h => by simp [signIn] at h
  | t :: r, h => by
    unfold signIn at h ⊢
    by_cases hp : Lib.hasPrefix l t = true
    · rw [if_pos hp] at h ⊢
      exact ⟨t, List.mem_cons_self, hp, rfl⟩
    · rw [if_neg hp] at h ⊢
      obtain ⟨u, h1, h2, h3⟩ := signIn_some l r h
      exact ⟨u, List.mem_cons_of_mem _ h1, h2, h3⟩
theorem signs_self : ∀ t ∈ signs, signL t = t.length ∧ bt t 0 < 128 ∧ t ≠ [] := by decide
theorem take_prefix (l t : List UInt8) (h : Lib.hasPrefix l t = true) : l.take t.length = t :=
  (List.prefix_iff_eq_take.1 (List.isPrefixOf_iff_prefix.1 h)).symm
theorem signL_take (l : List UInt8) (h : 0 < signL l) : signL (l.take (signL l)) = signL l ∧ bt l 0 < 128 := by
  obtain ⟨t, h1, h2, h3⟩ := signIn_some l signs h
  have hs := signs_self t h1
  have e : l.take (signL l) = t := by
    have : signL l = t.length := h3
    rw [this]
    exact take_prefix l t h2
  refine ⟨?_, ?_⟩
  · rw [e, hs.1]
    exact h3.symm
  · rw [← bt_take l (signL l) 0 h, e]
    exact hs.2.1
theorem digs_first (l : List UInt8) (h : 0 < digs l) : bt l 0 < 128 := by
  unfold digs at h
  cases l with
  | nil => simp at h
  | cons c r =>
    rw [List.takeWhile_cons] at h
    cases hc : isDb c
    · rw [hc] at h; simp at h
    · unfold isDb at hc
      simp only [Bool.and_eq_true, decide_eq_true_eq] at hc
      simp [bt]
      omega
theorem numL_pos (l : List UInt8) (h : 0 < numL l) : 0 < digs l := by
  unfold numL at h
  by_cases h0 : digs l = 0
  · rw [if_pos h0] at h; omega
  · omega
theorem wordL_take (l : List UInt8) (h : 0 < (wordL l).2) : wordL (l.take (wordL l).2) = wordL l := by
  by_cases h1 : 0 < nameL l
  · have e : wordL l = (0, nameL l) := by unfold wordL; rw [if_pos h1]
    rw [e]
    unfold wordL
    rw [nameL_take, if_pos h1]
  · by_cases h2 : 0 < numL l
    · have e : wordL l = (1, numL l) := by unfold wordL; rw [if_neg h1, if_pos h2]
      rw [e]
      unfold wordL
      rw [nameL_zero_take l _ (digs_first l (numL_pos l h2)) (by omega), if_neg (by omega), numL_take, if_pos h2]
    · by_cases h3 : 0 < signL l
      · have e : wordL l = (2, signL l) := by unfold wordL; rw [if_neg h1, if_neg h2, if_pos h3]
        have hs := signL_take l h3
        rw [e]
        unfold wordL
        have hd : digs l = 0 := by
          rcases Nat.eq_zero_or_pos (digs l) with h4 | h4
          · exact h4
          · exfalso
            apply h2
            unfold numL
            rw [if_neg (by omega)]
            split <;> omega
        have hn : numL (l.take (signL l)) = 0 := by
          unfold numL
          rw [if_pos (by rw [digs_take, hd]; omega)]
        rw [nameL_zero_take l _ hs.2 (by omega), if_neg (by omega), hn, if_neg (by omega), hs.1, if_pos h3]
      · have e : wordL l = (0, 0) := by unfold wordL; rw [if_neg h1, if_neg h2, if_neg h3]
        rw [e] at h
        exact absurd h (by decide)
theorem skip_cons (c : UInt8) (r : List UInt8) : skipB false (c :: r) = if isBl c then 1 + skipB false r else if c = 47 ∧ r.head? = some 47 then 1 + skipB true r else 0 := by rw [skipB]
theorem skip_zero (c : UInt8) (r : List UInt8) : skipB false (c :: r) = 0 ↔ isBl c = false ∧ ¬ (c = 47 ∧ r.head? = some 47) := by
  rw [skip_cons]
  cases hb : isBl c
  · by_cases h : c = 47 ∧ r.head? = some 47
    · rw [if_neg (by simp), if_pos h]
      constructor
      · intro h2; omega
      · intro h2; exact absurd h h2.2
    · rw [if_neg (by simp), if_neg h]
      simp [h]
  · rw [if_pos rfl]
    constructor
    · intro h2; omega
    · intro h2; simp at h2
theorem skipL_take0 (l : List UInt8) (m : Nat) (h : skipL l = 0) : skipL (l.take m) = 0 := by
  unfold skipL at h ⊢
  match l, m with
  | [], m => rw [List.take_nil]; rfl
  | c :: r, 0 => rw [List.take_zero]; rfl
  | c :: r, m + 1 =>
    rw [List.take_succ_cons, skip_zero]
    rw [skip_zero] at h
    refine ⟨h.1, fun h2 => h.2 ⟨h2.1, ?_⟩⟩
    have h3 := h2.2
    cases r with
    | nil => simp at h3
    | cons a b =>
      cases m with
      | zero => simp at h3
      | succ m => simpa using h3
theorem skip_app0 (c : UInt8) (r l : List UInt8) (hc : c ≠ 47) (hl : l ≠ []) (h : skipL l = 0) : skipL (l ++ c :: r) = 0 := by
  unfold skipL at h ⊢
  match l, hl with
  | a :: b, _ =>
    rw [List.cons_append, skip_zero]
    rw [skip_zero] at h
    refine ⟨h.1, fun h2 => h.2 ⟨h2.1, ?_⟩⟩
    have h3 := h2.2
    cases b with
    | nil => simp at h3; exact absurd h3 hc
    | cons x y => simpa using h3
theorem skip_idem : ∀ (b : Bool) (l : List UInt8), skipB false (l.drop (skipB b l)) = 0
  | b, [] => by cases b <;> simp [skipB]
  | true, c :: r => by
    have h1 := skip_idem true r
    have h2 := skip_idem false r
    have e : skipB true (c :: r) = if c = 10 then 1 + skipB false r else 1 + skipB true r := by rw [skipB]
    rw [e]
    by_cases h : c = 10
    · rw [if_pos h, Nat.add_comm 1, List.drop_succ_cons]; exact h2
    · rw [if_neg h, Nat.add_comm 1, List.drop_succ_cons]; exact h1
  | false, c :: r => by
    have h1 := skip_idem true r
    have h2 := skip_idem false r
    rw [skip_cons]
    by_cases hb : isBl c = true
    · rw [if_pos hb, Nat.add_comm 1, List.drop_succ_cons]; exact h2
    · rw [if_neg hb]
      by_cases h : c = 47 ∧ r.head? = some 47
      · rw [if_pos h, Nat.add_comm 1, List.drop_succ_cons]; exact h1
      · rw [if_neg h, List.drop_zero, skip_zero]
        exact ⟨by simpa using hb, h⟩
theorem toksL_ok : ∀ (f n p : Nat) (l : List UInt8) (ts : List Tk), skipL l = 0 → toksL f n p l = .ok ts → ∀ t ∈ ts, wordL t.2.1 = (t.1, t.2.1.length) ∧ 0 < t.2.1.length ∧ skipL t.2.1 = 0
  | 0, n, p, l, ts, _, h, t, ht => by
    rw [toksL] at h
    cases h
    simp at ht
  | f + 1, n, p, l, ts, hs, h, t, ht => by
    by_cases hl : l = []
    · rw [toksL, if_pos hl] at h
      cases h
      simp at ht
    · rw [toksL_step _ _ _ _ hl] at h
      by_cases h0 : (wordL l).2 = 0
      · rw [if_pos h0] at h; cases h
      · rw [if_neg h0] at h
        by_cases h1 : n = 4096
        · rw [if_pos h1] at h; cases h
        · rw [if_neg h1] at h
          have hsk : skipL (l.drop ((wordL l).2 + skipL (l.drop (wordL l).2))) = 0 := by
            rw [← List.drop_drop]
            exact skip_idem false _
          have ih := toksL_ok f (n + 1) (p + (wordL l).2 + skipL (l.drop (wordL l).2)) (l.drop ((wordL l).2 + skipL (l.drop (wordL l).2)))
          cases hr : toksL f (n + 1) (p + (wordL l).2 + skipL (l.drop (wordL l).2)) (l.drop ((wordL l).2 + skipL (l.drop (wordL l).2))) with
          | error e => rw [hr] at h; cases h
          | ok us =>
            rw [hr] at h
            cases h
            rcases List.mem_cons.1 ht with rfl | ht2
            · have hw := wordL_le l
              have hlen : (l.take (wordL l).2).length = (wordL l).2 := by rw [List.length_take]; omega
              refine ⟨?_, by rw [hlen]; omega, skipL_take0 l _ hs⟩
              rw [wordL_take l (by omega), hlen]
            · exact ih us hsk hr t ht2
end Go.Proofs.YtpbkeamjdolpgaaGreatDoor
namespace Go.Proofs.YtpbkeamjdolpgaaGreatDoor
open Go.RowKit Go.Lib

abbrev Wd := Nat × List UInt8
def kt (t : Tk) : Wd := (t.1, t.2.1)
def Sc (l : List UInt8) (ws : List Wd) : Prop := ∀ f n p, n ≤ 4096 → l.length ≤ f → (∃ ts, scanL f n p l = .ok ts ∧ ts.map kt = ws) ∨ (4096 < n + ws.length ∧ ∃ e, scanL f n p l = .error e)
theorem Sc.nil : Sc [] [] := by
  intro f n p _ _
  refine .inl ⟨[], ?_, rfl⟩
  unfold scanL
  cases f <;> simp [toksL]
theorem Sc.tok {w r : List UInt8} {k : Nat} {ws : List Wd} (hw : wordL (w ++ r) = (k, w.length)) (hne : w ≠ []) (hs : skipL (w ++ r) = 0) (h : Sc r ws) : Sc (w ++ r) ((k, w) :: ws) := by
  intro f n p hn hf
  have hlen := List.length_pos_iff.2 hne
  rw [List.length_append] at hf
  obtain ⟨g, rfl⟩ : ∃ g, f = g + 1 := ⟨f - 1, by omega⟩
  unfold scanL
  rw [hs, List.drop_zero, toksL_step _ _ _ _ (by simp [hne]), hw]
  dsimp only
  rw [if_neg (by omega), List.drop_left, List.take_left, Nat.add_zero]
  by_cases h1 : n = 4096
  · rw [if_pos h1]
    exact .inr ⟨by simp; omega, _, rfl⟩
  · rw [if_neg h1]
    have e : (w ++ r).drop (w.length + skipL r) = r.drop (skipL r) := by rw [← List.drop_drop, List.drop_left]
    rw [e]
    rcases h g (n + 1) (p + w.length) (by omega) (by omega) with ⟨ts, h2, h3⟩ | ⟨h2, e, h3⟩
    · unfold scanL at h2
      rw [h2]
      exact .inl ⟨_, rfl, by simp [kt, h3]⟩
    · unfold scanL at h3
      rw [h3]
      exact .inr ⟨by simp; omega, _, rfl⟩
theorem Sc.tokens {l : List UInt8} {ws : List Wd} (h : Sc l ws) {ts : List Tk} (ht : tokensL l = .ok ts) : ts.map kt = ws := by
  unfold tokensL at ht
  by_cases hb : 65536 < l.length
  · rw [if_pos hb] at ht; cases ht
  · rw [if_neg hb] at ht
    have e : scanL l.length 0 0 l = toksL l.length 0 (skipL l) (l.drop (skipL l)) := by unfold scanL; rw [Nat.zero_add]
    rcases h l.length 0 0 (by omega) (Nat.le_refl _) with ⟨ts', h2, h3⟩ | ⟨_, e', h3⟩
    · rw [e, ht] at h2
      cases h2
      exact h3
    · rw [e, ht] at h3
      cases h3
theorem Sc.all {l : List UInt8} {ws : List Wd} (h : Sc l ws) (hl : l.length ≤ 65536) (hw : ws.length ≤ 4096) : ∃ ts, tokensL l = .ok ts ∧ ts.map kt = ws := by
  unfold tokensL
  rw [if_neg (by omega)]
  have e : scanL l.length 0 0 l = toksL l.length 0 (skipL l) (l.drop (skipL l)) := by unfold scanL; rw [Nat.zero_add]
  rw [← e]
  rcases h l.length 0 0 (by omega) (Nat.le_refl _) with h2 | ⟨h2, _⟩
  · exact h2
  · omega

/-! ### What ends a word -/
def enC (c : UInt8) : Bool := isBl c || c == 40 || c == 41 || c == 44 || c == 59 || c == 91 || c == 93
def En (l : List UInt8) : Prop := ∀ c, l.head? = some c → enC c = true
theorem en_cases {c : UInt8} (h : enC c = true) : c = 32 ∨ c = 9 ∨ c = 10 ∨ c = 13 ∨ c = 40 ∨ c = 41 ∨ c = 44 ∨ c = 59 ∨ c = 91 ∨ c = 93 := by
  unfold enC isBl at h
  simpa [or_assoc] using h
theorem en_small {c : UInt8} (h : enC c = true) : c.toNat < 128 := by
  rcases en_cases h with rfl | rfl | rfl | rfl | rfl | rfl | rfl | rfl | rfl | rfl <;> decide
theorem en_name {c : UInt8} (h : enC c = true) (j : Nat) : isNm j c.toNat = false := by
  have h1 : (c.toNat == 95) = false ∧ Lib.isLetterU (c.toNat : Int) = false ∧ Lib.isDigitU (c.toNat : Int) = false := by
    rcases en_cases h with rfl | rfl | rfl | rfl | rfl | rfl | rfl | rfl | rfl | rfl <;> exact ⟨by decide, by kernel_rfl, by kernel_rfl⟩
  obtain ⟨a, b, d⟩ := h1
  unfold isNm
  rw [a, b, d]
  simp
theorem en_db {c : UInt8} (h : enC c = true) : isDb c = false := by
  rcases en_cases h with rfl | rfl | rfl | rfl | rfl | rfl | rfl | rfl | rfl | rfl <;> decide
theorem en_dot {c : UInt8} (h : enC c = true) : ¬ c = 46 := by
  rcases en_cases h with rfl | rfl | rfl | rfl | rfl | rfl | rfl | rfl | rfl | rfl <;> decide
theorem en_slash {c : UInt8} (h : enC c = true) : c ≠ 47 := by
  rcases en_cases h with rfl | rfl | rfl | rfl | rfl | rfl | rfl | rfl | rfl | rfl <;> decide
theorem en_signs {c : UInt8} (h : enC c = true) : ∀ t ∈ signs, t.length ≤ 2 ∧ t[1]? ≠ some c := by
  rcases en_cases h with rfl | rfl | rfl | rfl | rfl | rfl | rfl | rfl | rfl | rfl <;> decide
theorem nameL_en (l : List UInt8) (c : UInt8) (r : List UInt8) (hc : enC c = true) : nameL (l ++ c :: r) = nameL l := by
  unfold nameL
  rw [runL_app isNm c r (en_small hc) (en_name hc) _ _ _ (by simp only [List.length_append, List.length_cons]; omega)]
  exact runL_fuel _ _ _ _ _ (by simp only [List.length_append, List.length_cons]; omega) (Nat.le_refl _)
theorem digs_en (c : UInt8) (r : List UInt8) (hc : enC c = true) : ∀ l : List UInt8, digs (l ++ c :: r) = digs l
  | [] => by unfold digs; simp [en_db hc]
  | a :: l => by
    have ih := digs_en c r hc l
    unfold digs at ih ⊢
    rw [List.cons_append, List.takeWhile_cons, List.takeWhile_cons]
    cases isDb a
    · rfl
    · simp only [if_true, List.length_cons]
      rw [ih]
theorem numL_en (l : List UInt8) (c : UInt8) (r : List UInt8) (hc : enC c = true) : numL (l ++ c :: r) = numL l := by
  have h1 := digs_le l
  unfold numL
  rw [digs_en c r hc, List.drop_append_of_le_length h1]
  by_cases h0 : digs l = 0
  · rw [if_pos h0, if_pos h0]
  · rw [if_neg h0, if_neg h0]
    cases hd : l.drop (digs l) with
    | nil =>
      have hn : ¬ (([] : List UInt8) ++ c :: r).head? = some 46 := by
        simp
        exact en_dot hc
      rw [if_neg (fun h => hn h.1), if_neg (fun h => by cases h.1)]
    | cons x y =>
      have hlen : digs l + 1 ≤ l.length := by
        have := congrArg List.length hd
        rw [List.length_drop] at this
        simp at this
        omega
      rw [List.drop_append_of_le_length hlen, digs_en c r hc]
      rfl
theorem wordL_en (l : List UInt8) (r : List UInt8) (hl : l ≠ []) (hr : En r) : wordL (l ++ r) = wordL l := by
  cases r with
  | nil => rw [List.append_nil]
  | cons c r =>
    have hc := hr c rfl
    unfold wordL signL
    rw [nameL_en l c r hc, numL_en l c r hc, signIn_app l c r hl signs (en_signs hc)]
theorem skip_en (l r : List UInt8) (hl : l ≠ []) (hr : En r) (h : skipL l = 0) : skipL (l ++ r) = 0 := by
  cases r with
  | nil => rw [List.append_nil]; exact h
  | cons c r => exact skip_app0 c r l (en_slash (hr c rfl)) hl h
theorem Sc.word {w r : List UInt8} {k : Nat} {ws : List Wd} (hw : wordL w = (k, w.length)) (hne : w ≠ []) (hs : skipL w = 0) (hr : En r) (h : Sc r ws) : Sc (w ++ r) ((k, w) :: ws) :=
  Sc.tok (by rw [wordL_en w r hne hr, hw]) hne (skip_en w r hne hr hs) h
theorem skip_first (c : UInt8) (r : List UInt8) (h1 : isBl c = false) (h2 : c ≠ 47) : skipL (c :: r) = 0 := by
  unfold skipL
  rw [skip_zero]
  exact ⟨h1, fun h => h2 h.1⟩
theorem nameL_no (c : UInt8) (r : List UInt8) (h1 : c.toNat < 128) (h2 : isNm 0 c.toNat = false) : nameL (c :: r) = 0 := (nameL_first (c :: r) h1 (by simp)).2 h2
theorem numL_no (c : UInt8) (r : List UInt8) (h : isDb c = false) : numL (c :: r) = 0 := by
  unfold numL
  rw [if_pos]
  unfold digs
  rw [List.takeWhile_cons, h]
  rfl
theorem word_not (r : List UInt8) (h : r.head? ≠ some 61) : wordL (33 :: r) = (2, 1) := by
  have h2 : signL (33 :: r) = 1 := by
    unfold signL signs
    cases r with
    | nil => decide
    | cons d r =>
      have hd : ¬ d = 61 := fun e => h (by simp [e])
      have hd' : ¬ 61 = d := fun e => hd e.symm
      simp [signIn, Lib.hasPrefix, List.isPrefixOf, hd']
  unfold wordL
  rw [nameL_no 33 r (by decide) (by kernel_rfl), numL_no 33 r (by decide), h2]
  rfl
theorem Sc.not {r : List UInt8} {ws : List Wd} (hr : r.head? ≠ some 61) (h : Sc r ws) : Sc (33 :: r) ((2, [33]) :: ws) :=
  Sc.tok (w := [33]) (word_not r hr) (by simp) (skip_first 33 r (by decide) (by decide)) h
end Go.Proofs.YtpbkeamjdolpgaaGreatDoor
namespace Go.Proofs.YtpbkeamjdolpgaaGreatDoor
open Go.RowKit Go.Lib

/-! ### The words of a tree -/
theorem len_two {l : List Nd} (h : l.length = 2) : ∃ x y, l = [x, y] := by
  match l, h with
  | [x, y], _ => exact ⟨x, y, rfl⟩
theorem len_three {l : List Nd} (h : l.length = 3) : ∃ x y z, l = [x, y, z] := by
  match l, h with
  | [x, y, z], _ => exact ⟨x, y, z, rfl⟩
theorem exsR_of : ∀ {l : List Nd}, (∀ x ∈ l, exR x = true) → exsR l = true
  | [], _ => rfl
  | y :: r, h => by
    show (exR y && exsR r) = true
    rw [h y (by simp), exsR_of fun x hx => h x (by simp [hx])]
    rfl
theorem stsR_of : ∀ {l : List Nd}, (∀ x ∈ l, stR x = true) → stsR l = true
  | [], _ => rfl
  | y :: r, h => by
    show (stR y && stsR r) = true
    rw [h y (by simp), stsR_of fun x hx => h x (by simp [hx])]
    rfl
theorem exR_eq (kind : Int) (name : List UInt8) (kids : List Nd) (pos : Int) : exR (.mk kind name kids pos) =
    if kind = 9 then numR name && kids.isEmpty
    else if kind = 10 then plainR name && kids.isEmpty
    else if kind = 11 then name.isEmpty && exsR kids
    else if kind = 12 then (if kids.length = 1 then (decide (name = [45]) || decide (name = [33])) && exsR kids else decide (0 < levelS name) && decide (kids.length = 2) && exsR kids)
    else if kind = 13 then plainR name && shR [8] kids
    else if kind = 14 then name.isEmpty && decide (kids.length = 2) && exsR kids
    else if kind = 15 then name.isEmpty && decide (kids.length = 3) && exsR kids
    else false := by rw [exR]
theorem stR_eq (kind : Int) (name : List UInt8) (kids : List Nd) (pos : Int) : stR (.mk kind name kids pos) =
    if kind = 6 then name.isEmpty && shR (if kids.length = 2 then [-1, 0] else [-1, 0, 0]) kids
    else plainR name &&
      if kind = 1 then shR [-1] kids
      else if kind = 2 then shR [4, 0] kids
      else if kind = 3 then shR [4, -1] kids
      else if kind = 5 then shR [-1, 0] kids
      else if kind = 7 then shR (if kids.length = 1 then [8] else [8, 0]) kids
      else false := by rw [stR]
theorem En.cons {c : UInt8} {r : List UInt8} (h : enC c = true) : En (c :: r) := fun d hd => by cases hd; exact h
end Go.Proofs.YtpbkeamjdolpgaaGreatDoor
namespace Go.Proofs.YtpbkeamjdolpgaaGreatDoor
open Go.RowKit Go.Lib Go.Shelf Go.Sort

theorem kindsR_false (ws : List Int) (l : List Nd) : kindsR false ws l = shR ws l := by
  unfold kindsR
  by_cases h : l.length = ws.length
  · rw [h, List.take_length]
    simp
  · have : shR ws l = false := by
      cases hs : shR ws l
      · rfl
      · exact absurd (shR_len ws l hs).symm h
    rw [this]
    simp [h]
theorem shR_m1 (x : Nd) (ws : List Int) (l : List Nd) : shR (-1 :: ws) (x :: l) = (exR x && shR ws l) := rfl
theorem shR_m2 (l : List Nd) : shR [-1, -1] l = (decide (l.length = 2) && exsR l) := by
  match l with
  | [] => rfl
  | [x] =>
    rw [shR_m1]
    simp [shR]
  | [x, y] =>
    show (exR x && (exR y && true)) = (decide (2 = 2) && (exR x && (exR y && true)))
    simp
  | x :: y :: z :: r =>
    rw [shR_m1, shR_m1]
    simp [shR]
theorem shR_m3 (l : List Nd) : shR [-1, -1, -1] l = (decide (l.length = 3) && exsR l) := by
  match l with
  | [] => rfl
  | [x] =>
    rw [shR_m1]
    simp [shR]
  | [x, y] =>
    rw [shR_m1, shR_m1]
    simp [shR]
  | [x, y, z] =>
    show (exR x && (exR y && (exR z && true))) = (decide (3 = 3) && (exR x && (exR y && (exR z && true))))
    simp
  | x :: y :: z :: u :: r =>
    rw [shR_m1, shR_m1, shR_m1]
    simp [shR]
theorem kinds_all (ok : Nat → Prop) (short : Bool) (ws : List Int) (m : Nat) (hm : ws.length = m) (hm3 : m ≤ 3) (l : List Nd) (n : Nat) (hl : l.length = n) (hn : n < 2 ^ 62) (y : Option Addr) (c g cm : Nat) (w : World) (hrow : NdRow w ok l y) (hi : IntRow w g ws) (h : KidsOk ok w l) :
    Calls Tryz.prog 93 #[.slice y n c, .bool short, .slice (some ⟨g, 0, none⟩) m cm] w (Yes (kindsR short ws l) w) := by
  by_cases hs : n = m ∨ short = true ∧ n + 1 = m
  · have e : kindsR short ws l = shR (ws.take n) l := by
      unfold kindsR
      rw [hl, hm]
      rcases hs with h | ⟨h1, h2⟩
      · simp [h]
      · simp [h1, h2]
    rw [e]
    exact kinds_yes ok short ws m hm hm3 l n hl hs y c g cm w hrow hi fun x hx => ⟨(h x hx).1, (h x hx).2.2⟩
  · have e : kindsR short ws l = false := by
      unfold kindsR
      rw [hl, hm]
      have h1 : ¬ n = m := fun h => hs (.inl h)
      cases short
      · simp [h1]
      · have h2 : ¬ n + 1 = m := fun h => hs (.inr ⟨rfl, h⟩)
        simp [h1, h2]
    rw [e]
    refine (kinds_no short n m hn hm3 (fun h => hs (.inl h)) (fun h h2 => hs (.inr ⟨h, h2⟩)) y c g cm w).mono ?_
    rintro e w' ⟨he, rfl⟩
    exact ⟨he, Below.refl _ _⟩
theorem ints_one (w : World) (a : Int) (t : TypeId) : IntRow (w.alloc (.cells #[.int .i64 a] t)) w.heap.size [a] := by
  intro j u hj
  have h := heap_alloc_new w (.cells #[.int .i64 a] t)
  match j, hj with
  | 0, hj => cases hj; unfold World.cell?; rw [h]; rfl
theorem ints_two (w : World) (a b : Int) (t : TypeId) : IntRow (w.alloc (.cells #[.int .i64 a, .int .i64 b] t)) w.heap.size [a, b] := by
  intro j u hj
  have h := heap_alloc_new w (.cells #[.int .i64 a, .int .i64 b] t)
  match j, hj with
  | 0, hj => cases hj; unfold World.cell?; rw [h]; rfl
  | 1, hj => cases hj; unfold World.cell?; rw [h]; rfl
theorem ints_three (w : World) (a b c : Int) (t : TypeId) : IntRow (w.alloc (.cells #[.int .i64 a, .int .i64 b, .int .i64 c] t)) w.heap.size [a, b, c] := by
  intro j u hj
  have h := heap_alloc_new w (.cells #[.int .i64 a, .int .i64 b, .int .i64 c] t)
  match j, hj with
  | 0, hj => cases hj; unfold World.cell?; rw [h]; rfl
  | 1, hj => cases hj; unfold World.cell?; rw [h]; rfl
  | 2, hj => cases hj; unfold World.cell?; rw [h]; rfl

section
variable (ok : Nat → Prop) (w0 : World) (n : List UInt8) (kids : List Nd) (p : Int) (hw : wtL kids + n.length < 2 ^ 40) (hG : Gl w0) (h : KidsOk ok w0 kids)
set_option maxHeartbeats 4000000 in
set_option maxRecDepth 100000 in
include hw h in
theorem ex11_any : OneQ 147 [] ok exR w0 (.mk 11 n kids p) := by
  intro v w1 hb hv
  obtain ⟨y, c, rfl, hrow⟩ := hv
  have hlen := len_wtL kids
  have hA : Below w1.heap.size w1 (w1.alloc (ndO 11 n y kids.length c p)) := (Below.refl _ _).alloc (Nat.le_refl _) _
  have e1 := enters_of Tryz.func147 (by kernel_rfl) rfl
  have hK := (h.below hb).below hA
  have c1 := all_any 147 e1 ok exR kids kids.length rfl (by omega) y c _ (hrow.below hA) (fun x hx => (hK x hx).1)
  rw [← exsR_all] at c1
  have HA := Lib.hid hA
  show Calls _ _ _ _ (Yes (n.isEmpty && exsR kids) w1)
  simp only [List.append_toArray, List.cons_append, List.nil_append]
  unfold ndO at c1
  obtain ⟨B1, hB1⟩ : ∃ B, exsR kids = B := ⟨_, rfl⟩
  rw [hB1] at c1 ⊢
  clear h hrow hB1 hb hA hK hlen hw
  by_cases hn : n = []
  · subst hn
    go_enter Tryz.func147, Tryz.ntmps147
    go_wp2_with fail
    refine c1.mono ?_
    clear c1
    rintro e w2 ⟨rfl, hb2⟩
    go_wp2_with fail
    go_ret
    exact ⟨by simp, tr HA.out hb2⟩
  · have e : n.isEmpty = false := by simpa using hn
    rw [e, Bool.false_and]
    have Q : (n == []) = false := beq_eq_false_iff_ne.2 hn
    have Q2 : (n != []) = true := by rw [bne_iff_ne]; exact hn
    clear c1
    go_enter Tryz.func147, Tryz.ntmps147
    go_wp2_with fail
    go_ret
    exact ⟨rfl, HA.out⟩
set_option maxHeartbeats 4000000 in
set_option maxRecDepth 100000 in
include hw h in
theorem ex14_any : OneQ 147 [] ok exR w0 (.mk 14 n kids p) := by
  intro v w1 hb hv
  obtain ⟨y, c, rfl, hrow⟩ := hv
  have hlen := len_wtL kids
  have hA : Below w1.heap.size w1 (w1.alloc (ndO 14 n y kids.length c p)) := (Below.refl _ _).alloc (Nat.le_refl _) _
  have hI : Below (w1.alloc (ndO 14 n y kids.length c p)).heap.size (w1.alloc (ndO 14 n y kids.length c p)) ((w1.alloc (ndO 14 n y kids.length c p)).alloc (.cells #[.int .i64 (-1), .int .i64 (-1)] 3)) := (Below.refl _ _).alloc (Nat.le_refl _) _
  have c1 := kinds_all ok false [-1, -1] 2 rfl (by omega) kids kids.length rfl (by omega) y c _ 2 _ ((hrow.below hA).below hI) (ints_two _ (-1) (-1) 3) (((h.below hb).below hA).below hI)
  rw [World.size_alloc] at c1
  have HA := Lib.hid (tr hA hI)
  have hE : exR (.mk 14 n kids p) = (n.isEmpty && kindsR false [-1, -1] kids) := by
    rw [exR_eq, kindsR_false, shR_m2]
    simp [Bool.and_assoc]
  rw [hE]
  show Calls _ _ _ _ (Yes _ w1)
  simp only [List.append_toArray, List.cons_append, List.nil_append]
  unfold ndO at c1
  obtain ⟨B1, hB1⟩ : ∃ B, kindsR false [-1, -1] kids = B := ⟨_, rfl⟩
  rw [hB1] at c1 ⊢
  have HA0 := Lib.hid hA
  clear h hrow hB1 hb hA hI hlen hw hE
  by_cases hn : n = []
  · subst hn
    go_enter Tryz.func147, Tryz.ntmps147
    go_wp2_with fail
    refine c1.mono ?_
    clear c1
    rintro e w2 ⟨rfl, hb2⟩
    go_wp2_with fail
    go_ret
    exact ⟨by simp, tr HA.out hb2⟩
  · have e : n.isEmpty = false := by simpa using hn
    rw [e, Bool.false_and]
    have Q : (n == []) = false := beq_eq_false_iff_ne.2 hn
    have Q2 : (n != []) = true := by rw [bne_iff_ne]; exact hn
    clear c1
    go_enter Tryz.func147, Tryz.ntmps147
    go_wp2_with fail
    go_ret
    exact ⟨rfl, HA0.out⟩
set_option maxHeartbeats 4000000 in
set_option maxRecDepth 100000 in
include hw h in
theorem ex15_any : OneQ 147 [] ok exR w0 (.mk 15 n kids p) := by
  intro v w1 hb hv
  obtain ⟨y, c, rfl, hrow⟩ := hv
  have hlen := len_wtL kids
  have hA : Below w1.heap.size w1 (w1.alloc (ndO 15 n y kids.length c p)) := (Below.refl _ _).alloc (Nat.le_refl _) _
  have hI : Below (w1.alloc (ndO 15 n y kids.length c p)).heap.size (w1.alloc (ndO 15 n y kids.length c p)) ((w1.alloc (ndO 15 n y kids.length c p)).alloc (.cells #[.int .i64 (-1), .int .i64 (-1), .int .i64 (-1)] 3)) := (Below.refl _ _).alloc (Nat.le_refl _) _
  have c1 := kinds_all ok false [-1, -1, -1] 3 rfl (by omega) kids kids.length rfl (by omega) y c _ 3 _ ((hrow.below hA).below hI) (ints_three _ (-1) (-1) (-1) 3) (((h.below hb).below hA).below hI)
  rw [World.size_alloc] at c1
  have HA := Lib.hid (tr hA hI)
  have hE : exR (.mk 15 n kids p) = (n.isEmpty && kindsR false [-1, -1, -1] kids) := by
    rw [exR_eq, kindsR_false, shR_m3]
    simp [Bool.and_assoc]
  rw [hE]
  show Calls _ _ _ _ (Yes _ w1)
  simp only [List.append_toArray, List.cons_append, List.nil_append]
  unfold ndO at c1
  obtain ⟨B1, hB1⟩ : ∃ B, kindsR false [-1, -1, -1] kids = B := ⟨_, rfl⟩
  rw [hB1] at c1 ⊢
  have HA0 := Lib.hid hA
  clear h hrow hB1 hb hA hI hlen hw hE
  by_cases hn : n = []
  · subst hn
    go_enter Tryz.func147, Tryz.ntmps147
    go_wp2_with fail
    refine c1.mono ?_
    clear c1
    rintro e w2 ⟨rfl, hb2⟩
    go_wp2_with fail
    go_ret
    exact ⟨by simp, tr HA.out hb2⟩
  · have e : n.isEmpty = false := by simpa using hn
    rw [e, Bool.false_and]
    have Q : (n == []) = false := beq_eq_false_iff_ne.2 hn
    have Q2 : (n != []) = true := by rw [bne_iff_ne]; exact hn
    clear c1
    go_enter Tryz.func147, Tryz.ntmps147
    go_wp2_with fail
    go_ret
    exact ⟨rfl, HA0.out⟩
set_option maxHeartbeats 4000000 in
set_option maxRecDepth 100000 in
include hw h hG in
theorem ex13_any : OneQ 147 [] ok exR w0 (.mk 13 n kids p) := by
  intro v w1 hb hv
  obtain ⟨y, c, rfl, hrow⟩ := hv
  have hlen := len_wtL kids
  have hA : Below w1.heap.size w1 (w1.alloc (ndO 13 n y kids.length c p)) := (Below.refl _ _).alloc (Nat.le_refl _) _
  have c0 := plain_any n _ (by omega) ((hG.below hb).below hA)
  have C1 : Hid (∀ w2, Below (w1.alloc (ndO 13 n y kids.length c p)).heap.size (w1.alloc (ndO 13 n y kids.length c p)) w2 → Calls Tryz.prog 93 #[.slice y kids.length c, .bool false, .slice (some ⟨w2.heap.size, 0, none⟩) 1 1] (w2.alloc (.cells #[.int .i64 8] 3)) (Yes (kindsR false [8] kids) (w2.alloc (.cells #[.int .i64 8] 3)))) := fun w2 hb2 =>
    kinds_all ok false [8] 1 rfl (by omega) kids kids.length rfl (by omega) y c _ 1 _ (((hrow.below hA).below hb2).below ((Below.refl _ _).alloc (Nat.le_refl _) _)) (ints_one _ 8 3) ((((h.below hb).below hA).below hb2).below ((Below.refl _ _).alloc (Nat.le_refl _) _))
  have HA := Lib.hid hA
  have hE : exR (.mk 13 n kids p) = (plainR n && kindsR false [8] kids) := by
    rw [exR_eq, kindsR_false]
    rfl
  rw [hE]
  show Calls _ _ _ _ (Yes _ w1)
  simp only [List.append_toArray, List.cons_append, List.nil_append]
  unfold ndO at c0
  clear h hrow hb hA hlen hw hE hG
  have hz : ∀ o, w1.heap.size < (w1.alloc o).heap.size := fun o => by rw [World.size_alloc]; omega
  cases hP : plainR n
  · rw [hP] at c0
    rw [Bool.false_and]
    clear C1 hP
    go_enter Tryz.func147, Tryz.ntmps147
    go_wp2_with fail
    refine c0.mono ?_
    clear c0
    rintro e w2 ⟨rfl, hb2⟩
    go_wp2_with fail
    go_ret
    exact ⟨rfl, tr HA.out hb2⟩
  · rw [hP] at c0
    rw [Bool.true_and]
    clear hP
    obtain ⟨B1, hB1⟩ : ∃ B, kindsR false [8] kids = B := ⟨_, rfl⟩
    rw [hB1] at C1 ⊢
    clear hB1
    have hbx : (w1.alloc (.cells #[.int .i64 13, .string ⟨n.toArray⟩, .slice y kids.length c, .int .i64 p] 53)).cell? ⟨w1.heap.size, 2, none⟩ = some (.slice y kids.length c) := (Box4.new w1 _ _ _ _).facts.2.2.1
    have HBX := Lib.hid hbx
    clear hbx
    go_enter Tryz.func147, Tryz.ntmps147
    go_wp2_with fail
    refine c0.mono ?_
    clear c0
    rintro e w2 ⟨rfl, hb2⟩
    have x2 := (hb2.cell (p := ⟨w1.heap.size, 2, none⟩) (hz _)).trans HBX.out
    go_wp2_with fail
    refine (C1.out w2 hb2).mono ?_
    rintro e w3 ⟨rfl, hb3⟩
    go_wp2_with fail
    go_ret
    exact ⟨rfl, tr (tr HA.out hb2) (tr ((Below.refl _ _).alloc (Nat.le_refl _) _) hb3)⟩
set_option maxHeartbeats 4000000 in
set_option maxRecDepth 100000 in
include hw hG in
theorem ex10_any : OneQ 147 [] ok exR w0 (.mk 10 n kids p) := by
  intro v w1 hb hv
  obtain ⟨y, c, rfl, hrow⟩ := hv
  generalize c.val = c
  have hlen := len_wtL kids
  have hA : Below w1.heap.size w1 (w1.alloc (ndO 10 n y kids.length c p)) := (Below.refl _ _).alloc (Nat.le_refl _) _
  have c0 := plain_any n _ (by omega) ((hG.below hb).below hA)
  have hE : exR (.mk 10 n kids p) = (plainR n && decide (kids.length = 0)) := by
    rw [exR_eq]
    cases kids <;> simp
  rw [hE]
  show Calls _ _ _ _ (Yes _ w1)
  simp only [List.append_toArray, List.cons_append, List.nil_append]
  unfold ndO at c0
  obtain ⟨m, hm⟩ : ∃ m, kids.length = m := ⟨_, rfl⟩
  rw [hm] at c0 hlen hA ⊢
  have HA := Lib.hid hA
  clear hrow hb hA hw hE hG hm
  have hz : ∀ o, w1.heap.size < (w1.alloc o).heap.size := fun o => by rw [World.size_alloc]; omega
  have hbx : (w1.alloc (.cells #[.int .i64 10, .string ⟨n.toArray⟩, .slice y m c, .int .i64 p] 53)).cell? ⟨w1.heap.size, 2, none⟩ = some (.slice y m c) := (Box4.new w1 _ _ _ _).facts.2.2.1
  have HBX := Lib.hid hbx
  clear hbx
  cases hP : plainR n
  · rw [hP] at c0
    rw [Bool.false_and]
    clear hP
    go_enter Tryz.func147, Tryz.ntmps147
    go_wp2_with fail
    refine c0.mono ?_
    clear c0
    rintro e w2 ⟨rfl, hb2⟩
    go_wp2_with fail
    go_ret
    exact ⟨rfl, tr HA.out hb2⟩
  · rw [hP] at c0
    rw [Bool.true_and]
    clear hP
    have Q : ((m : Int) == 0) = decide (m = 0) := by
      by_cases h : m = 0
      · subst h; rfl
      · have : ((m : Int) == 0) = false := beq_eq_false_iff_ne.2 (by omega)
        rw [this]
        simp [h]
    cases hB : decide (m = 0)
    · rw [hB] at Q
      clear hB
      go_enter Tryz.func147, Tryz.ntmps147
      go_wp2_with fail
      refine c0.mono ?_
      clear c0
      rintro e w2 ⟨rfl, hb2⟩
      have x2 := (hb2.cell (p := ⟨w1.heap.size, 2, none⟩) (hz _)).trans HBX.out
      go_wp2_with fail
      go_ret
      exact ⟨rfl, tr HA.out hb2⟩
    · have hm0 : m = 0 := by simpa using hB
      subst hm0
      clear hB Q
      go_enter Tryz.func147, Tryz.ntmps147
      go_wp2_with fail
      refine c0.mono ?_
      clear c0
      rintro e w2 ⟨rfl, hb2⟩
      have x2 := (hb2.cell (p := ⟨w1.heap.size, 2, none⟩) (hz _)).trans HBX.out
      go_wp2_with fail
      go_ret
      exact ⟨rfl, tr HA.out hb2⟩
end
end Go.Proofs.YtpbkeamjdolpgaaGreatDoor
namespace Go.Proofs.YtpbkeamjdolpgaaGreatDoor
open Go.RowKit Go.Lib Go.Shelf Go.Sort

section
variable (ok : Nat → Prop) (w0 : World) (n : List UInt8) (kids : List Nd) (p : Int) (hw : wtL kids + n.length < 2 ^ 40) (hG : Gl w0) (h : KidsOk ok w0 kids)
set_option maxHeartbeats 4000000 in
set_option maxRecDepth 100000 in
include h in
theorem ex12a_any (x : Nd) (hx : kids = [x]) : OneQ 147 [] ok exR w0 (.mk 12 n kids p) := by
  subst hx
  intro v w1 hb hv
  obtain ⟨y, c, rfl, hrow⟩ := hv
  have hA : Below w1.heap.size w1 (w1.alloc (ndO 12 n y 1 c p)) := (Below.refl _ _).alloc (Nat.le_refl _) _
  have hr2 := hrow.below hA
  obtain ⟨B, o, rfl, hat, _⟩ := hr2
  obtain ⟨k', nm, z, kk, cc, p', rfl, x0, x1, x2, x3, hk⟩ := hat.val
  have c1 := (h (.mk k' nm kk p') (by simp)).1 (.agg #[.int .i64 k', .string ⟨nm.toArray⟩, .slice z kk.length cc, .int .i64 p']) _ (tr hb hA) ⟨z, cc, rfl, hk⟩
  have HA := Lib.hid hA
  have hE : exR (.mk 12 n [.mk k' nm kk p'] p) = ((decide (n = [45]) || decide (n = [33])) && exR (.mk k' nm kk p')) := by
    rw [exR_eq]
    show (((decide (n = [45]) || decide (n = [33])) && (exR (.mk k' nm kk p') && true))) = _
    rw [Bool.and_true]
  rw [hE]
  show Calls _ _ _ _ (Yes _ w1)
  simp only [List.append_toArray, List.cons_append, List.nil_append, List.length_singleton] at c1 ⊢
  obtain ⟨B1, hB1⟩ : ∃ B, exR (.mk k' nm kk p') = B := ⟨_, rfl⟩
  rw [hB1] at c1 ⊢
  unfold ndO at c1 x0 x1 x2 x3
  clear h hrow hB1 hb hA hE hat hk
  by_cases h1 : n = [45]
  · subst h1
    go_enter Tryz.func147, Tryz.ntmps147
    go_wp2_with fail
    refine c1.mono ?_
    clear c1
    rintro e w2 ⟨rfl, hb2⟩
    go_wp2_with fail
    go_ret
    exact ⟨by simp, tr HA.out hb2⟩
  · have Q1 : (n == [45]) = false := beq_eq_false_iff_ne.2 h1
    by_cases h2 : n = [33]
    · subst h2
      go_enter Tryz.func147, Tryz.ntmps147
      go_wp2_with fail
      refine c1.mono ?_
      clear c1
      rintro e w2 ⟨rfl, hb2⟩
      go_wp2_with fail
      go_ret
      exact ⟨by simp, tr HA.out hb2⟩
    · have Q2 : (n == [33]) = false := beq_eq_false_iff_ne.2 h2
      have e : ((decide (n = [45]) || decide (n = [33])) && B1) = false := by simp [h1, h2]
      rw [e]
      clear c1 h1 h2 e
      go_enter Tryz.func147, Tryz.ntmps147
      go_wp2_with fail
      go_ret
      exact ⟨rfl, HA.out⟩
set_option maxHeartbeats 4000000 in
set_option maxRecDepth 100000 in
include hw h in
theorem ex12b_any (hx : kids.length ≠ 1) : OneQ 147 [] ok exR w0 (.mk 12 n kids p) := by
  intro v w1 hb hv
  obtain ⟨y, c, rfl, hrow⟩ := hv
  have hlen := len_wtL kids
  have hA : Below w1.heap.size w1 (w1.alloc (ndO 12 n y kids.length c p)) := (Below.refl _ _).alloc (Nat.le_refl _) _
  have c0 := levelC_any n (w1.alloc (ndO 12 n y kids.length c p))
  have C1 : Hid (∀ w2, Below (w1.alloc (ndO 12 n y kids.length c p)).heap.size (w1.alloc (ndO 12 n y kids.length c p)) w2 → Calls Tryz.prog 93 #[.slice y kids.length c, .bool false, .slice (some ⟨w2.heap.size, 0, none⟩) 2 2] (w2.alloc (.cells #[.int .i64 (-1), .int .i64 (-1)] 3)) (Yes (kindsR false [-1, -1] kids) (w2.alloc (.cells #[.int .i64 (-1), .int .i64 (-1)] 3)))) := fun w2 hb2 =>
    kinds_all ok false [-1, -1] 2 rfl (by omega) kids kids.length rfl (by omega) y c _ 2 _ (((hrow.below hA).below hb2).below ((Below.refl _ _).alloc (Nat.le_refl _) _)) (ints_two _ (-1) (-1) 3) ((((h.below hb).below hA).below hb2).below ((Below.refl _ _).alloc (Nat.le_refl _) _))
  have hE : exR (.mk 12 n kids p) = (decide (0 < levelS n) && kindsR false [-1, -1] kids) := by
    rw [exR_eq, kindsR_false, shR_m2]
    simp [hx, Bool.and_assoc]
  rw [hE]
  show Calls _ _ _ _ (Yes _ w1)
  simp only [List.append_toArray, List.cons_append, List.nil_append]
  have Qx : ((kids.length : Int) == 1) = false := beq_eq_false_iff_ne.2 (by omega)
  have HA := Lib.hid hA
  have HX := Lib.hid hx
  obtain ⟨L, hL⟩ : ∃ L, levelS n = L := ⟨_, rfl⟩
  rw [hL] at c0 ⊢
  unfold ndO at c0
  clear h hrow hb hA hw hE hL hx
  have hz : ∀ o, w1.heap.size < (w1.alloc o).heap.size := fun o => by rw [World.size_alloc]; omega
  have hbx : (w1.alloc (.cells #[.int .i64 12, .string ⟨n.toArray⟩, .slice y kids.length c, .int .i64 p] 53)).cell? ⟨w1.heap.size, 2, none⟩ = some (.slice y kids.length c) := (Box4.new w1 _ _ _ _).facts.2.2.1
  have HBX := Lib.hid hbx
  clear hbx
  by_cases h0 : 0 < L
  · have e : decide (0 < L) = true := by simpa using h0
    rw [e, Bool.true_and]
    obtain ⟨B1, hB1⟩ : ∃ B, kindsR false [-1, -1] kids = B := ⟨_, rfl⟩
    rw [hB1] at C1 ⊢
    clear hB1 e
    have Q0 : decide ((L : Int) > 0) = true := by simp; omega
    have Q1 : (0 : Int) < (L : Int) := by omega
    go_enter Tryz.func147, Tryz.ntmps147
    go_wp2_with fail
    refine c0.mono ?_
    clear c0
    rintro e w2 ⟨rfl, hb2⟩
    have x2 := (hb2.cell (p := ⟨w1.heap.size, 2, none⟩) (hz _)).trans HBX.out
    go_wp2_with fail
    refine (C1.out w2 hb2).mono ?_
    rintro e w3 ⟨rfl, hb3⟩
    go_wp2_with fail
    go_ret
    exact ⟨rfl, tr (tr HA.out hb2) (tr ((Below.refl _ _).alloc (Nat.le_refl _) _) hb3)⟩
  · have e : decide (0 < L) = false := by simpa using h0
    rw [e, Bool.false_and]
    have Q0 : decide ((L : Int) > 0) = false := by simp; omega
    have Q1 : ¬ (0 : Int) < (L : Int) := by omega
    clear e C1 h0
    go_enter Tryz.func147, Tryz.ntmps147
    go_wp2_with fail
    refine c0.mono ?_
    clear c0
    rintro e w2 ⟨rfl, hb2⟩
    go_wp2_with fail
    go_ret
    exact ⟨rfl, tr HA.out hb2⟩
set_option maxHeartbeats 4000000 in
set_option maxRecDepth 100000 in
theorem exno_any (k : Int) (hk : k < 9 ∨ 15 < k) : OneQ 147 [] ok exR w0 (.mk k n kids p) := by
  intro v w1 hb hv
  obtain ⟨y, c, rfl, hrow⟩ := hv
  have hA : Below w1.heap.size w1 (w1.alloc (ndO k n y kids.length c p)) := (Below.refl _ _).alloc (Nat.le_refl _) _
  have HA := Lib.hid hA
  have hE : exR (.mk k n kids p) = false := by
    rw [exR_eq, if_neg (by omega), if_neg (by omega), if_neg (by omega), if_neg (by omega), if_neg (by omega), if_neg (by omega), if_neg (by omega)]
  rw [hE]
  show Calls _ _ _ _ (Yes _ w1)
  simp only [List.append_toArray, List.cons_append, List.nil_append]
  have Q9 : (k == 9) = false := beq_eq_false_iff_ne.2 (by omega)
  have Q10 : (k == 10) = false := beq_eq_false_iff_ne.2 (by omega)
  have Q11 : (k == 11) = false := beq_eq_false_iff_ne.2 (by omega)
  have Q12 : (k == 12) = false := beq_eq_false_iff_ne.2 (by omega)
  have Q13 : (k == 13) = false := beq_eq_false_iff_ne.2 (by omega)
  have Q14 : (k == 14) = false := beq_eq_false_iff_ne.2 (by omega)
  have Q15 : (k == 15) = false := beq_eq_false_iff_ne.2 (by omega)
  clear hrow hb hA hE hk
  go_enter Tryz.func147, Tryz.ntmps147
  go_wp2_with fail
  go_ret
  exact ⟨rfl, HA.out⟩
set_option maxHeartbeats 8000000 in
set_option maxRecDepth 100000 in
include hw hG in
theorem ex9_any : OneQ 147 [] ok exR w0 (.mk 9 n kids p) := by
  intro v w1 hb hv
  obtain ⟨y, c, rfl, hrow⟩ := hv
  generalize c.val = c
  have hlen := len_wtL kids
  have hE : exR (.mk 9 n kids p) = (numR n && decide (kids.length = 0)) := by
    rw [exR_eq]
    cases kids <;> simp
  rw [hE]
  show Calls _ _ _ _ (Yes _ w1)
  simp only [List.append_toArray, List.cons_append, List.nil_append]
  obtain ⟨m, hm⟩ : ∃ m, kids.length = m := ⟨_, rfl⟩
  rw [hm] at hlen ⊢
  have hA : Below w1.heap.size w1 (w1.alloc (ndO 9 n y m c p)) := (Below.refl _ _).alloc (Nat.le_refl _) _
  have c0 := tokens_all ⟨n.toArray⟩ _ ((hG.below hb).below hA)
  have en : (⟨n.toArray⟩ : ByteArray).data.toList = n := rfl
  rw [en] at c0
  have HA := Lib.hid hA
  unfold ndO at c0
  have HM : Hid (m < 2 ^ 40) := by
    show m < 2 ^ 40
    omega
  clear hrow hb hA hw hE hG hm en hlen
  have hz : ∀ o, w1.heap.size < (w1.alloc o).heap.size := fun o => by rw [World.size_alloc]; omega
  have hf := (Box4.new w1 (.int .i64 9) (.string ⟨n.toArray⟩) (.slice y m c) (.int .i64 p)).facts
  have HX : Hid (∀ w2, Below (w1.alloc (.cells #[.int .i64 9, .string ⟨n.toArray⟩, .slice y m c, .int .i64 p] 53)).heap.size (w1.alloc (.cells #[.int .i64 9, .string ⟨n.toArray⟩, .slice y m c, .int .i64 p] 53)) w2 → w2.cell? ⟨w1.heap.size, 1, none⟩ = some (.string ⟨n.toArray⟩) ∧ w2.cell? ⟨w1.heap.size, 2, none⟩ = some (.slice y m c)) := fun w2 hb2 =>
    ⟨(hb2.cell (p := ⟨w1.heap.size, 1, none⟩) (hz _)).trans hf.2.1, (hb2.cell (p := ⟨w1.heap.size, 2, none⟩) (hz _)).trans hf.2.2.1⟩
  clear hf hz
  cases hT : tokensL n with
  | error f =>
    have hN : numR n = false := by unfold numR; rw [hT]
    rw [hT] at c0
    rw [hN, Bool.false_and]
    clear hT hN
    go_enter Tryz.func147, Tryz.ntmps147
    go_wp2_with fail
    refine c0.mono ?_
    clear c0
    rintro e w2 ⟨hb2, b, hb3, rfl, hb4⟩
    obtain ⟨x1, x2⟩ := HX.out w2 hb2
    clear hb4 HX
    go_wp2_with fail
    go_quiet (fail)
    go_wp2_with fail
    go_ret
    exact ⟨rfl, bdn (tr HA.out hb2) _⟩
  | ok ts =>
    rw [hT] at c0
    have hlenT := tokensL_len n ts hT
    by_cases hl1 : ts.length = 1
    · obtain ⟨t, rfl⟩ := List.length_eq_one_iff.1 hl1
      have hN : numR n = (decide (t.1 = 1) && decide (t.2.1 = n)) := by unfold numR; rw [hT]
      rw [hN]
      clear hT hN hl1 hlenT
      have K : ∀ b : Bool, b = (decide (t.1 = 1) && decide (t.2.1 = n) && decide (m = 0)) → (((t.1 : Int) == 1) = false ∧ b = false) ∨ (((t.1 : Int) == 1) = true ∧ (t.2.1 == n) = false ∧ b = false) ∨ (((t.1 : Int) == 1) = true ∧ (t.2.1 == n) = true ∧ ((m : Int) == 0) = false ∧ b = false) ∨ (((t.1 : Int) == 1) = true ∧ (t.2.1 == n) = true ∧ ((m : Int) == 0) = true ∧ b = true) := by
        intro b hb
        by_cases h1 : t.1 = 1
        · have e1 : ((t.1 : Int) == 1) = true := by rw [h1]; rfl
          by_cases h2 : t.2.1 = n
          · have e2 : (t.2.1 == n) = true := by simpa using h2
            by_cases h3 : m = 0
            · exact .inr (.inr (.inr ⟨e1, e2, by rw [h3]; rfl, by rw [hb]; simp [h1, h2, h3]⟩))
            · exact .inr (.inr (.inl ⟨e1, e2, beq_eq_false_iff_ne.2 (by omega), by rw [hb]; simp [h3]⟩))
          · exact .inr (.inl ⟨e1, beq_eq_false_iff_ne.2 h2, by rw [hb]; simp [h2]⟩)
        · exact .inl ⟨beq_eq_false_iff_ne.2 (by omega), by rw [hb]; simp [h1]⟩
      obtain ⟨b, hb⟩ : ∃ b, b = (decide (t.1 = 1) && decide (t.2.1 = n) && decide (m = 0)) := ⟨_, rfl⟩
      have K2 := K b hb
      rw [← hb]
      obtain ⟨t0, t1, t2⟩ := t
      dsimp only at K2
      clear K hb
      rcases K2 with ⟨q1, rfl⟩ | ⟨q1, q2, rfl⟩ | ⟨q1, q2, q3, rfl⟩ | ⟨q1, q2, q3, rfl⟩
      all_goals (
        go_enter Tryz.func147, Tryz.ntmps147
        go_wp2_with fail
        refine c0.mono ?_
        clear c0
        rintro e w2 ⟨hb2, v2, rfl, hown⟩
        obtain ⟨x1, x2⟩ := HX.out w2 hb2
        obtain ⟨g, cap, rfl, _, _, hc⟩ := own_some hown (by simp)
        have y0 : w2.cell? ⟨g, 0, none⟩ = some (.int .i64 t0) := hc 0 (by simp)
        have y1 : w2.cell? ⟨g, 1, none⟩ = some (.string ⟨t1.toArray⟩) := hc 1 (by simp)
        simp only [List.length_singleton]
        clear hown HX hc
        go_wp2_with fail
        go_quiet (fail)
        go_wp2_with fail
        go_ret
        exact ⟨rfl, bdn (tr HA.out hb2) _⟩)
    · have hN : numR n = false := by
        unfold numR
        rw [hT]
        match ts, hl1 with
        | [], _ => rfl
        | [x], h => exact absurd rfl h
        | _ :: _ :: _, _ => rfl
      rw [hN, Bool.false_and]
      have Q : ((ts.length : Int) == 1) = false := beq_eq_false_iff_ne.2 (by omega)
      obtain ⟨nt, hnt⟩ : ∃ nt, ts.length = nt := ⟨_, rfl⟩
      rw [hnt] at Q
      have HNT := Lib.hid hnt
      clear hT hN hl1 hlenT hnt
      go_enter Tryz.func147, Tryz.ntmps147
      go_wp2_with fail
      refine c0.mono ?_
      clear c0
      rintro e w2 ⟨hb2, v2, rfl, hown⟩
      obtain ⟨x1, x2⟩ := HX.out w2 hb2
      obtain ⟨xa, xc, rfl⟩ := own_shape hown
      rw [HNT.out]
      clear hown HX
      go_wp2_with fail
      go_quiet (fail)
      go_wp2_with fail
      go_ret
      exact ⟨rfl, bdn (tr HA.out hb2) _⟩
end
end Go.Proofs.YtpbkeamjdolpgaaGreatDoor
namespace Go.Proofs.YtpbkeamjdolpgaaGreatDoor
open Go.RowKit Go.Lib Go.Shelf

end Go.Proofs.YtpbkeamjdolpgaaGreatDoor
namespace Go.Proofs.YtpbkeamjdolpgaaGreatDoor
open Go.RowKit Go.Lib Go.Shelf

end Go.Proofs.YtpbkeamjdolpgaaGreatDoor
namespace Go.Proofs.YtpbkeamjdolpgaaGreatDoor
open Go.RowKit Go.Lib Go.Shelf

end Go.Proofs.YtpbkeamjdolpgaaGreatDoor
namespace Go.Proofs.YtpbkeamjdolpgaaGreatDoor
open Go.RowKit Go.Lib Go.Shelf

theorem Tryz.isFaultE (v : Value) (w : World) : (Instr.typeAssert (.iface 23 v) 20 23 true).run Tryz.prog w = .ok (.tuple #[v, .bool true]) w := by kernel_rfl
def DoorQ (w0 : World) (e : Exit) (a : Act) (w : World) : Prop := e = .normal ∧ a.defers = [] ∧ w = w0
/-! The closure that waits at Parse's door, for a frame that panics with a fault. -/
end Go.Proofs.YtpbkeamjdolpgaaGreatDoor
namespace Go.Proofs.YtpbkeamjdolpgaaGreatDoor
open Go.RowKit Go.Lib Go.Shelf

theorem stmtsP_step {ts : List Tk} {L F g : Nat} {acc : List Nd} {q : Nat} (h : q < ts.length) : stmtsP ts L F (g + 1) acc q = (stmtP ts L F F q).bind fun x r => stmtsP ts L F g (acc ++ [x]) r := by
  rw [stmtsP, if_neg (by omega)]
theorem stmtsP_end {ts : List Tk} {L F g : Nat} {acc : List Nd} {q : Nat} (h : ¬ q < ts.length) : stmtsP ts L F (g + 1) acc q = .ok acc q := by
  rw [stmtsP, if_pos (by omega)]
mutual
theorem LenN.of_sz : ∀ (x : Nd), szN x < 2 ^ 62 → LenN x
  | .mk _ _ kids _, h => by
    rw [szN_mk] at h
    have := len_szL kids
    exact ⟨by omega, LenL.of_sz kids (by omega)⟩
theorem LenL.of_sz : ∀ (l : List Nd), szL l < 2 ^ 62 → LenL l
  | [], _ => trivial
  | x :: r, h => by
    have h' : szN x + szL r < 2 ^ 62 := h
    exact ⟨LenN.of_sz x (by omega), LenL.of_sz r (by omega)⟩
end
end Go.Proofs.YtpbkeamjdolpgaaGreatDoor
namespace Go.Proofs.YtpbkeamjdolpgaaGreatDoor
open Go.RowKit Go.Lib Go.Shelf Go.Sort

theorem kindsR_6 (l : List Nd) : kindsR true [-1, 0, 0] l = shR (if l.length = 2 then [-1, 0] else [-1, 0, 0]) l := by
  unfold kindsR
  by_cases h2 : l.length = 2
  · rw [if_pos h2, h2]; simp
  · rw [if_neg h2]
    by_cases h3 : l.length = 3
    · rw [h3]; simp
    · have : shR [-1, 0, 0] l = false := by
        cases hs : shR [-1, 0, 0] l
        · rfl
        · exact absurd (shR_len _ _ hs).symm h3
      rw [this]
      simp [h3]
      omega
theorem kindsR_7 (l : List Nd) : kindsR true [8, 0] l = shR (if l.length = 1 then [8] else [8, 0]) l := by
  unfold kindsR
  by_cases h2 : l.length = 1
  · rw [if_pos h2, h2]; simp
  · rw [if_neg h2]
    by_cases h3 : l.length = 2
    · rw [h3]; simp
    · have : shR [8, 0] l = false := by
        cases hs : shR [8, 0] l
        · rfl
        · exact absurd (shR_len _ _ hs).symm h3
      rw [this]
      simp [h3]
      omega
section
variable (ok : Nat → Prop) (w0 : World) (n : List UInt8) (kids : List Nd) (p : Int) (hw : wtL kids + n.length < 2 ^ 40) (hG : Gl w0) (h : KidsOk ok w0 kids)
set_option maxHeartbeats 4000000 in
set_option maxRecDepth 100000 in
include hw h in
theorem st6_any : OneQ 52 [] ok stR w0 (.mk 6 n kids p) := by
  intro v w1 hb hv
  obtain ⟨y, c, rfl, hrow⟩ := hv
  have hlen := len_wtL kids
  have hA : Below w1.heap.size w1 (w1.alloc (ndO 6 n y kids.length c p)) := (Below.refl _ _).alloc (Nat.le_refl _) _
  have hI : Below (w1.alloc (ndO 6 n y kids.length c p)).heap.size (w1.alloc (ndO 6 n y kids.length c p)) ((w1.alloc (ndO 6 n y kids.length c p)).alloc (.cells #[.int .i64 (-1), .int .i64 0, .int .i64 0] 3)) := (Below.refl _ _).alloc (Nat.le_refl _) _
  have c1 := kinds_all ok true [-1, 0, 0] 3 rfl (by omega) kids kids.length rfl (by omega) y c _ 3 _ ((hrow.below hA).below hI) (ints_three _ (-1) 0 0 3) (((h.below hb).below hA).below hI)
  rw [World.size_alloc] at c1
  have HA := Lib.hid (tr hA hI)
  have HA0 := Lib.hid hA
  have hE : stR (.mk 6 n kids p) = (n.isEmpty && kindsR true [-1, 0, 0] kids) := by
    rw [stR_eq, kindsR_6, if_pos rfl]
  rw [hE]
  show Calls _ _ _ _ (Yes _ w1)
  simp only [List.append_toArray, List.cons_append, List.nil_append]
  unfold ndO at c1
  obtain ⟨B1, hB1⟩ : ∃ B, kindsR true [-1, 0, 0] kids = B := ⟨_, rfl⟩
  rw [hB1] at c1 ⊢
  clear h hrow hB1 hb hA hI hlen hw hE
  by_cases hn : n = []
  · subst hn
    go_enter Tryz.func52, Tryz.ntmps52
    go_wp2_with fail
    refine c1.mono ?_
    clear c1
    rintro e w2 ⟨rfl, hb2⟩
    go_wp2_with fail
    go_ret
    exact ⟨by simp, tr HA.out hb2⟩
  · have e : n.isEmpty = false := by simpa using hn
    rw [e, Bool.false_and]
    have Q : (n == []) = false := beq_eq_false_iff_ne.2 hn
    clear c1
    go_enter Tryz.func52, Tryz.ntmps52
    go_wp2_with fail
    go_ret
    exact ⟨rfl, HA0.out⟩
set_option maxHeartbeats 4000000 in
set_option maxRecDepth 100000 in
include hw hG in
theorem stno_any (k : Int) (hk : k ≠ 6) (hP : plainR n = false) : OneQ 52 [] ok stR w0 (.mk k n kids p) := by
  intro v w1 hb hv
  obtain ⟨y, c, rfl, hrow⟩ := hv
  have hA : Below w1.heap.size w1 (w1.alloc (ndO k n y kids.length c p)) := (Below.refl _ _).alloc (Nat.le_refl _) _
  have c0 := plain_any n _ (by omega) ((hG.below hb).below hA)
  rw [hP] at c0
  have HA := Lib.hid hA
  have hE : stR (.mk k n kids p) = false := by
    rw [stR_eq, if_neg hk, hP, Bool.false_and]
  rw [hE]
  show Calls _ _ _ _ (Yes _ w1)
  simp only [List.append_toArray, List.cons_append, List.nil_append]
  unfold ndO at c0
  have Q : (k == 6) = false := beq_eq_false_iff_ne.2 hk
  clear hrow hb hA hw hE hG hP hk
  go_enter Tryz.func52, Tryz.ntmps52
  go_wp2_with fail
  refine c0.mono ?_
  clear c0
  rintro e w2 ⟨rfl, hb2⟩
  go_wp2_with fail
  go_ret
  exact ⟨rfl, tr HA.out hb2⟩
set_option maxHeartbeats 4000000 in
set_option maxRecDepth 100000 in
include hw hG in
theorem stk_any (k : Int) (hk6 : k ≠ 6) (hk : k < 1 ∨ 3 < k) (hk5 : k ≠ 5) (hk7 : k ≠ 7) (hP : plainR n = true) : OneQ 52 [] ok stR w0 (.mk k n kids p) := by
  intro v w1 hb hv
  obtain ⟨y, c, rfl, hrow⟩ := hv
  have hA : Below w1.heap.size w1 (w1.alloc (ndO k n y kids.length c p)) := (Below.refl _ _).alloc (Nat.le_refl _) _
  have c0 := plain_any n _ (by omega) ((hG.below hb).below hA)
  rw [hP] at c0
  have HA := Lib.hid hA
  have hE : stR (.mk k n kids p) = false := by
    rw [stR_eq, if_neg hk6, if_neg (by omega), if_neg (by omega), if_neg (by omega), if_neg hk5, if_neg hk7, Bool.and_false]
  rw [hE]
  show Calls _ _ _ _ (Yes _ w1)
  simp only [List.append_toArray, List.cons_append, List.nil_append]
  unfold ndO at c0
  have Q6 : (k == 6) = false := beq_eq_false_iff_ne.2 hk6
  have Q1 : (k == 1) = false := beq_eq_false_iff_ne.2 (by omega)
  have Q2 : (k == 2) = false := beq_eq_false_iff_ne.2 (by omega)
  have Q3 : (k == 3) = false := beq_eq_false_iff_ne.2 (by omega)
  have Q5 : (k == 5) = false := beq_eq_false_iff_ne.2 hk5
  have Q7 : (k == 7) = false := beq_eq_false_iff_ne.2 hk7
  have hz : ∀ o, w1.heap.size < (w1.alloc o).heap.size := fun o => by rw [World.size_alloc]; omega
  have hbx : (w1.alloc (.cells #[.int .i64 k, .string ⟨n.toArray⟩, .slice y kids.length c, .int .i64 p] 53)).cell? ⟨w1.heap.size, 0, none⟩ = some (.int .i64 k) := (Box4.new w1 _ _ _ _).facts.1
  have HBX := Lib.hid hbx
  clear hrow hb hA hw hE hG hP hk hk5 hk6 hk7 hbx
  go_enter Tryz.func52, Tryz.ntmps52
  go_wp2_with fail
  refine c0.mono ?_
  clear c0
  rintro e w2 ⟨rfl, hb2⟩
  have x0 := (hb2.cell (p := ⟨w1.heap.size, 0, none⟩) (hz _)).trans HBX.out
  go_wp2_with fail
  go_ret
  exact ⟨rfl, tr HA.out hb2⟩
set_option maxHeartbeats 4000000 in
set_option maxRecDepth 100000 in
include hw hG h in
theorem st1_any (hP : plainR n = true) : OneQ 52 [] ok stR w0 (.mk 1 n kids p) := by
  intro v w1 hb hv
  obtain ⟨y, c, rfl, hrow⟩ := hv
  have hlen := len_wtL kids
  have hA : Below w1.heap.size w1 (w1.alloc (ndO 1 n y kids.length c p)) := (Below.refl _ _).alloc (Nat.le_refl _) _
  have c0 := plain_any n _ (by omega) ((hG.below hb).below hA)
  rw [hP] at c0
  have C1 : Hid (∀ w2, Below (w1.alloc (ndO 1 n y kids.length c p)).heap.size (w1.alloc (ndO 1 n y kids.length c p)) w2 → Calls Tryz.prog 93 #[.slice y kids.length c, .bool false, .slice (some ⟨w2.heap.size, 0, none⟩) 1 1] (w2.alloc (.cells #[.int .i64 (-1)] 3)) (Yes (kindsR false [-1] kids) (w2.alloc (.cells #[.int .i64 (-1)] 3)))) := fun w2 hb2 =>
    kinds_all ok false [-1] 1 rfl (by omega) kids kids.length rfl (by omega) y c _ 1 _ (((hrow.below hA).below hb2).below ((Below.refl _ _).alloc (Nat.le_refl _) _)) (ints_one _ (-1) 3) ((((h.below hb).below hA).below hb2).below ((Below.refl _ _).alloc (Nat.le_refl _) _))
  have HA := Lib.hid hA
  have hE : stR (.mk 1 n kids p) = kindsR false [-1] kids := by
    rw [stR_eq, kindsR_false, hP]
    simp
  rw [hE]
  show Calls _ _ _ _ (Yes _ w1)
  simp only [List.append_toArray, List.cons_append, List.nil_append]
  unfold ndO at c0
  have hz : ∀ o, w1.heap.size < (w1.alloc o).heap.size := fun o => by rw [World.size_alloc]; omega
  have hf := (Box4.new w1 (.int .i64 1) (.string ⟨n.toArray⟩) (.slice y kids.length c) (.int .i64 p)).facts
  have HBX := Lib.hid hf
  obtain ⟨B1, hB1⟩ : ∃ B, kindsR false [-1] kids = B := ⟨_, rfl⟩
  rw [hB1] at C1 ⊢
  clear h hrow hb hA hw hE hG hP hlen hf hB1
  go_enter Tryz.func52, Tryz.ntmps52
  go_wp2_with fail
  refine c0.mono ?_
  clear c0
  rintro e w2 ⟨rfl, hb2⟩
  have x0 := (hb2.cell (p := ⟨w1.heap.size, 0, none⟩) (hz _)).trans HBX.out.1
  have x2 := (hb2.cell (p := ⟨w1.heap.size, 2, none⟩) (hz _)).trans HBX.out.2.2.1
  go_wp2_with fail
  refine (C1.out w2 hb2).mono ?_
  rintro e w3 ⟨rfl, hb3⟩
  go_wp2_with fail
  go_ret
  exact ⟨rfl, tr (tr HA.out hb2) (tr ((Below.refl _ _).alloc (Nat.le_refl _) _) hb3)⟩
set_option maxHeartbeats 4000000 in
set_option maxRecDepth 100000 in
include hw hG h in
theorem st2_any (hP : plainR n = true) : OneQ 52 [] ok stR w0 (.mk 2 n kids p) := by
  intro v w1 hb hv
  obtain ⟨y, c, rfl, hrow⟩ := hv
  have hlen := len_wtL kids
  have hA : Below w1.heap.size w1 (w1.alloc (ndO 2 n y kids.length c p)) := (Below.refl _ _).alloc (Nat.le_refl _) _
  have c0 := plain_any n _ (by omega) ((hG.below hb).below hA)
  rw [hP] at c0
  have C1 : Hid (∀ w2, Below (w1.alloc (ndO 2 n y kids.length c p)).heap.size (w1.alloc (ndO 2 n y kids.length c p)) w2 → Calls Tryz.prog 93 #[.slice y kids.length c, .bool false, .slice (some ⟨w2.heap.size, 0, none⟩) 2 2] (w2.alloc (.cells #[.int .i64 4, .int .i64 0] 3)) (Yes (kindsR false [4, 0] kids) (w2.alloc (.cells #[.int .i64 4, .int .i64 0] 3)))) := fun w2 hb2 =>
    kinds_all ok false [4, 0] 2 rfl (by omega) kids kids.length rfl (by omega) y c _ 2 _ (((hrow.below hA).below hb2).below ((Below.refl _ _).alloc (Nat.le_refl _) _)) (ints_two _ 4 0 3) ((((h.below hb).below hA).below hb2).below ((Below.refl _ _).alloc (Nat.le_refl _) _))
  have HA := Lib.hid hA
  have hE : stR (.mk 2 n kids p) = kindsR false [4, 0] kids := by
    rw [stR_eq, kindsR_false, hP]
    simp
  rw [hE]
  show Calls _ _ _ _ (Yes _ w1)
  simp only [List.append_toArray, List.cons_append, List.nil_append]
  unfold ndO at c0
  have hz : ∀ o, w1.heap.size < (w1.alloc o).heap.size := fun o => by rw [World.size_alloc]; omega
  have hf := (Box4.new w1 (.int .i64 2) (.string ⟨n.toArray⟩) (.slice y kids.length c) (.int .i64 p)).facts
  have HBX := Lib.hid hf
  obtain ⟨B1, hB1⟩ : ∃ B, kindsR false [4, 0] kids = B := ⟨_, rfl⟩
  rw [hB1] at C1 ⊢
  clear h hrow hb hA hw hE hG hP hlen hf hB1
  go_enter Tryz.func52, Tryz.ntmps52
  go_wp2_with fail
  refine c0.mono ?_
  clear c0
  rintro e w2 ⟨rfl, hb2⟩
  have x0 := (hb2.cell (p := ⟨w1.heap.size, 0, none⟩) (hz _)).trans HBX.out.1
  have x2 := (hb2.cell (p := ⟨w1.heap.size, 2, none⟩) (hz _)).trans HBX.out.2.2.1
  go_wp2_with fail
  refine (C1.out w2 hb2).mono ?_
  rintro e w3 ⟨rfl, hb3⟩
  go_wp2_with fail
  go_ret
  exact ⟨rfl, tr (tr HA.out hb2) (tr ((Below.refl _ _).alloc (Nat.le_refl _) _) hb3)⟩
set_option maxHeartbeats 4000000 in
set_option maxRecDepth 100000 in
include hw hG h in
theorem st3_any (hP : plainR n = true) : OneQ 52 [] ok stR w0 (.mk 3 n kids p) := by
  intro v w1 hb hv
  obtain ⟨y, c, rfl, hrow⟩ := hv
  have hlen := len_wtL kids
  have hA : Below w1.heap.size w1 (w1.alloc (ndO 3 n y kids.length c p)) := (Below.refl _ _).alloc (Nat.le_refl _) _
  have c0 := plain_any n _ (by omega) ((hG.below hb).below hA)
  rw [hP] at c0
  have C1 : Hid (∀ w2, Below (w1.alloc (ndO 3 n y kids.length c p)).heap.size (w1.alloc (ndO 3 n y kids.length c p)) w2 → Calls Tryz.prog 93 #[.slice y kids.length c, .bool false, .slice (some ⟨w2.heap.size, 0, none⟩) 2 2] (w2.alloc (.cells #[.int .i64 4, .int .i64 (-1)] 3)) (Yes (kindsR false [4, -1] kids) (w2.alloc (.cells #[.int .i64 4, .int .i64 (-1)] 3)))) := fun w2 hb2 =>
    kinds_all ok false [4, -1] 2 rfl (by omega) kids kids.length rfl (by omega) y c _ 2 _ (((hrow.below hA).below hb2).below ((Below.refl _ _).alloc (Nat.le_refl _) _)) (ints_two _ 4 (-1) 3) ((((h.below hb).below hA).below hb2).below ((Below.refl _ _).alloc (Nat.le_refl _) _))
  have HA := Lib.hid hA
  have hE : stR (.mk 3 n kids p) = kindsR false [4, -1] kids := by
    rw [stR_eq, kindsR_false, hP]
    simp
  rw [hE]
  show Calls _ _ _ _ (Yes _ w1)
  simp only [List.append_toArray, List.cons_append, List.nil_append]
  unfold ndO at c0
  have hz : ∀ o, w1.heap.size < (w1.alloc o).heap.size := fun o => by rw [World.size_alloc]; omega
  have hf := (Box4.new w1 (.int .i64 3) (.string ⟨n.toArray⟩) (.slice y kids.length c) (.int .i64 p)).facts
  have HBX := Lib.hid hf
  obtain ⟨B1, hB1⟩ : ∃ B, kindsR false [4, -1] kids = B := ⟨_, rfl⟩
  rw [hB1] at C1 ⊢
  clear h hrow hb hA hw hE hG hP hlen hf hB1
  go_enter Tryz.func52, Tryz.ntmps52
  go_wp2_with fail
  refine c0.mono ?_
  clear c0
  rintro e w2 ⟨rfl, hb2⟩
  have x0 := (hb2.cell (p := ⟨w1.heap.size, 0, none⟩) (hz _)).trans HBX.out.1
  have x2 := (hb2.cell (p := ⟨w1.heap.size, 2, none⟩) (hz _)).trans HBX.out.2.2.1
  go_wp2_with fail
  refine (C1.out w2 hb2).mono ?_
  rintro e w3 ⟨rfl, hb3⟩
  go_wp2_with fail
  go_ret
  exact ⟨rfl, tr (tr HA.out hb2) (tr ((Below.refl _ _).alloc (Nat.le_refl _) _) hb3)⟩
set_option maxHeartbeats 4000000 in
set_option maxRecDepth 100000 in
include hw hG h in
theorem st5_any (hP : plainR n = true) : OneQ 52 [] ok stR w0 (.mk 5 n kids p) := by
  intro v w1 hb hv
  obtain ⟨y, c, rfl, hrow⟩ := hv
  have hlen := len_wtL kids
  have hA : Below w1.heap.size w1 (w1.alloc (ndO 5 n y kids.length c p)) := (Below.refl _ _).alloc (Nat.le_refl _) _
  have c0 := plain_any n _ (by omega) ((hG.below hb).below hA)
  rw [hP] at c0
  have C1 : Hid (∀ w2, Below (w1.alloc (ndO 5 n y kids.length c p)).heap.size (w1.alloc (ndO 5 n y kids.length c p)) w2 → Calls Tryz.prog 93 #[.slice y kids.length c, .bool false, .slice (some ⟨w2.heap.size, 0, none⟩) 2 2] (w2.alloc (.cells #[.int .i64 (-1), .int .i64 0] 3)) (Yes (kindsR false [-1, 0] kids) (w2.alloc (.cells #[.int .i64 (-1), .int .i64 0] 3)))) := fun w2 hb2 =>
    kinds_all ok false [-1, 0] 2 rfl (by omega) kids kids.length rfl (by omega) y c _ 2 _ (((hrow.below hA).below hb2).below ((Below.refl _ _).alloc (Nat.le_refl _) _)) (ints_two _ (-1) 0 3) ((((h.below hb).below hA).below hb2).below ((Below.refl _ _).alloc (Nat.le_refl _) _))
  have HA := Lib.hid hA
  have hE : stR (.mk 5 n kids p) = kindsR false [-1, 0] kids := by
    rw [stR_eq, kindsR_false, hP]
    simp
  rw [hE]
  show Calls _ _ _ _ (Yes _ w1)
  simp only [List.append_toArray, List.cons_append, List.nil_append]
  unfold ndO at c0
  have hz : ∀ o, w1.heap.size < (w1.alloc o).heap.size := fun o => by rw [World.size_alloc]; omega
  have hf := (Box4.new w1 (.int .i64 5) (.string ⟨n.toArray⟩) (.slice y kids.length c) (.int .i64 p)).facts
  have HBX := Lib.hid hf
  obtain ⟨B1, hB1⟩ : ∃ B, kindsR false [-1, 0] kids = B := ⟨_, rfl⟩
  rw [hB1] at C1 ⊢
  clear h hrow hb hA hw hE hG hP hlen hf hB1
  go_enter Tryz.func52, Tryz.ntmps52
  go_wp2_with fail
  refine c0.mono ?_
  clear c0
  rintro e w2 ⟨rfl, hb2⟩
  have x0 := (hb2.cell (p := ⟨w1.heap.size, 0, none⟩) (hz _)).trans HBX.out.1
  have x2 := (hb2.cell (p := ⟨w1.heap.size, 2, none⟩) (hz _)).trans HBX.out.2.2.1
  go_wp2_with fail
  refine (C1.out w2 hb2).mono ?_
  rintro e w3 ⟨rfl, hb3⟩
  go_wp2_with fail
  go_ret
  exact ⟨rfl, tr (tr HA.out hb2) (tr ((Below.refl _ _).alloc (Nat.le_refl _) _) hb3)⟩
set_option maxHeartbeats 4000000 in
set_option maxRecDepth 100000 in
include hw hG h in
theorem st7_any (hP : plainR n = true) : OneQ 52 [] ok stR w0 (.mk 7 n kids p) := by
  intro v w1 hb hv
  obtain ⟨y, c, rfl, hrow⟩ := hv
  have hlen := len_wtL kids
  have hA : Below w1.heap.size w1 (w1.alloc (ndO 7 n y kids.length c p)) := (Below.refl _ _).alloc (Nat.le_refl _) _
  have c0 := plain_any n _ (by omega) ((hG.below hb).below hA)
  rw [hP] at c0
  have C1 : Hid (∀ w2, Below (w1.alloc (ndO 7 n y kids.length c p)).heap.size (w1.alloc (ndO 7 n y kids.length c p)) w2 → Calls Tryz.prog 93 #[.slice y kids.length c, .bool true, .slice (some ⟨w2.heap.size, 0, none⟩) 2 2] (w2.alloc (.cells #[.int .i64 8, .int .i64 0] 3)) (Yes (kindsR true [8, 0] kids) (w2.alloc (.cells #[.int .i64 8, .int .i64 0] 3)))) := fun w2 hb2 =>
    kinds_all ok true [8, 0] 2 rfl (by omega) kids kids.length rfl (by omega) y c _ 2 _ (((hrow.below hA).below hb2).below ((Below.refl _ _).alloc (Nat.le_refl _) _)) (ints_two _ 8 0 3) ((((h.below hb).below hA).below hb2).below ((Below.refl _ _).alloc (Nat.le_refl _) _))
  have HA := Lib.hid hA
  have hE : stR (.mk 7 n kids p) = kindsR true [8, 0] kids := by
    rw [stR_eq, kindsR_7, hP]
    simp
  rw [hE]
  show Calls _ _ _ _ (Yes _ w1)
  simp only [List.append_toArray, List.cons_append, List.nil_append]
  unfold ndO at c0
  have hz : ∀ o, w1.heap.size < (w1.alloc o).heap.size := fun o => by rw [World.size_alloc]; omega
  have hf := (Box4.new w1 (.int .i64 7) (.string ⟨n.toArray⟩) (.slice y kids.length c) (.int .i64 p)).facts
  have HBX := Lib.hid hf
  obtain ⟨B1, hB1⟩ : ∃ B, kindsR true [8, 0] kids = B := ⟨_, rfl⟩
  rw [hB1] at C1 ⊢
  clear h hrow hb hA hw hE hG hP hlen hf hB1
  go_enter Tryz.func52, Tryz.ntmps52
  go_wp2_with fail
  refine c0.mono ?_
  clear c0
  rintro e w2 ⟨rfl, hb2⟩
  have x0 := (hb2.cell (p := ⟨w1.heap.size, 0, none⟩) (hz _)).trans HBX.out.1
  have x2 := (hb2.cell (p := ⟨w1.heap.size, 2, none⟩) (hz _)).trans HBX.out.2.2.1
  go_wp2_with fail
  refine (C1.out w2 hb2).mono ?_
  rintro e w3 ⟨rfl, hb3⟩
  go_wp2_with fail
  go_ret
  exact ⟨rfl, tr (tr HA.out hb2) (tr ((Below.refl _ _).alloc (Nat.le_refl _) _) hb3)⟩
end
theorem node_ck (ok : Nat → Prop) (w0 : World) (hG : Gl w0) : ∀ (N : Nat) (x : Nd), wtN x < N → wtN x < 2 ^ 40 → OneQ 147 [] ok exR w0 x ∧ OneQ 52 [] ok stR w0 x ∧ OneQ 148 [] ok partR w0 x
  | 0, _, h, _ => by omega
  | N + 1, .mk k n kids p, hN, hw => by
    have hK : KidsOk ok w0 kids := fun x hx => node_ck ok w0 hG N x (by have := kid_wt (k := k) (n := n) (p := p) hx; omega) (by have := kid_wt (k := k) (n := n) (p := p) hx; omega)
    rw [wtN_mk] at hw
    have hlen := len_wtL kids
    have hw' : wtL kids + n.length < 2 ^ 40 := by omega
    refine ⟨?_, ?_, part_any ok w0 k n kids p (by omega) hK⟩
    · by_cases h9 : k = 9
      · subst h9; exact ex9_any ok w0 n kids p hw' hG
      by_cases h10 : k = 10
      · subst h10; exact ex10_any ok w0 n kids p hw' hG
      by_cases h11 : k = 11
      · subst h11; exact ex11_any ok w0 n kids p hw' hK
      by_cases h12 : k = 12
      · subst h12
        by_cases hl : kids.length = 1
        · obtain ⟨x, hx⟩ := List.length_eq_one_iff.1 hl
          exact ex12a_any ok w0 n kids p hK x hx
        · exact ex12b_any ok w0 n kids p hw' hK hl
      by_cases h13 : k = 13
      · subst h13; exact ex13_any ok w0 n kids p hw' hG hK
      by_cases h14 : k = 14
      · subst h14; exact ex14_any ok w0 n kids p hw' hK
      by_cases h15 : k = 15
      · subst h15; exact ex15_any ok w0 n kids p hw' hK
      exact exno_any ok w0 n kids p k (by omega)
    · by_cases h6 : k = 6
      · subst h6; exact st6_any ok w0 n kids p hw' hK
      cases hP : plainR n
      · exact stno_any ok w0 n kids p hw' hG k h6 hP
      by_cases h1 : k = 1
      · subst h1; exact st1_any ok w0 n kids p hw' hG hK hP
      by_cases h2 : k = 2
      · subst h2; exact st2_any ok w0 n kids p hw' hG hK hP
      by_cases h3 : k = 3
      · subst h3; exact st3_any ok w0 n kids p hw' hG hK hP
      by_cases h5 : k = 5
      · subst h5; exact st5_any ok w0 n kids p hw' hG hK hP
      by_cases h7 : k = 7
      · subst h7; exact st7_any ok w0 n kids p hw' hG hK hP
      exact stk_any ok w0 n kids p hw' hG k h6 (by omega) h5 h7 hP
set_option maxHeartbeats 4000000 in
set_option maxRecDepth 100000 in
theorem check_any (ok : Nat → Prop) (l : List Nd) (hw : wtL l < 2 ^ 40) (y : Option Addr) (c : Nat) (w : World) (hG : Gl w) (hrow : NdRow w ok l y) :
    Calls Tryz.prog 20 #[.slice y l.length c] w fun e w' => e = .returned (.int .i64 (checkR l)) ∧ Below w.heap.size w w' := by
  have hlen := len_wtL l
  have hsz := sz_wtL l
  have c0 := deep_any ok (szL l + 1) l (Nat.lt_succ_self _) (LenL.of_sz l (by omega)) (by omega) 1 (by omega) y c w hrow
  have e2 := enters_of Tryz.func52 (by kernel_rfl) rfl
  have C1 : Hid (∀ w1, Below w.heap.size w w1 → Calls Tryz.prog 51 #[.slice y l.length c, .func (.func 52) #[] #[]] w1 (Yes (stsR l) w1)) := fun w1 hb => by
    rw [stsR_all]
    exact all_any 52 e2 ok stR l l.length rfl (by omega) y c w1 (hrow.below hb) fun x hx => ((node_ck ok w hG (wtN x + 1) x (Nat.lt_succ_self _) (by have := wtL_mem hx; omega)).2.1).below hb
  have hR : checkR l = match deepL l 1 with | some _ => 3 | none => if stsR l then 0 else 290 := rfl
  obtain ⟨R, hR2⟩ : ∃ R, checkR l = R := ⟨_, rfl⟩
  rw [hR2] at hR ⊢
  have HR := Lib.hid hR
  obtain ⟨n, hn⟩ : ∃ n, l.length = n := ⟨_, rfl⟩
  rw [hn] at c0 C1 ⊢
  clear hG hrow hw hR hR2 hn hlen hsz
  go_enter Tryz.func20, Tryz.ntmps20
  go_wp2_with fail
  refine c0.mono ?_
  clear c0
  rintro e w1 ⟨hb, ⟨hr, rfl⟩ | ⟨nd, b, o, hr, rfl, hat⟩⟩
  · have hR := HR.out
    rw [hr] at hR
    clear hr
    cases hS : stsR l
    · have C2 := C1.out w1 hb
      rw [hS] at C2
      have HR2 : Hid (R = 290) := by
        rw [hS] at hR
        exact hR
      clear hS hR C1
      go_wp2_with fail
      refine C2.mono ?_
      clear C2
      rintro e w2 ⟨rfl, hb2⟩
      go_wp2_with fail
      go_ret
      exact ⟨by rw [HR2.out]; rfl, tr hb hb2⟩
    · have C2 := C1.out w1 hb
      rw [hS] at C2
      have HR2 : Hid (R = 0) := by
        rw [hS] at hR
        exact hR
      clear hS hR C1
      go_wp2_with fail
      refine C2.mono ?_
      clear C2
      rintro e w2 ⟨rfl, hb2⟩
      go_wp2_with fail
      go_ret
      exact ⟨by rw [HR2.out]; rfl, tr hb hb2⟩
  · have HR2 : Hid (R = 3) := by
      have hR := HR.out
      rw [hr] at hR
      exact hR
    clear hr hat C1
    go_wp2_with fail
    go_ret
    exact ⟨by rw [HR2.out]; rfl, hb⟩
end Go.Proofs.YtpbkeamjdolpgaaGreatDoor
namespace Go.Proofs.YtpbkeamjdolpgaaGreatDoor
open Go.RowKit Go.Lib Go.Shelf Go.Sort

end Go.Proofs.YtpbkeamjdolpgaaGreatDoor
namespace Go.Proofs.YtpbkeamjdolpgaaGreatDoor
open Go.RowKit Go.Extern.Stop Go.Stop Go.Extern

theorem Tryz.valueOf27 (t : Addr) (w : World) : (ReflectliteValue.unpack (.iface 98 (.pointer (some t)))).run Tryz.prog w
    = .ok (.agg #[.pointer (some ⟨10, 98, none⟩), .pointer (some ⟨w.heap.size, 0, none⟩), .int .u64 150]) (w.alloc (.cells #[.pointer (some t)] 98)) := by kernel_rfl
theorem Tryz.type27 (a : Addr) (w : World) : (ReflectliteValue.methodAny (ReflectliteValue.valueError "reflectlite.Value.Type" 0) (fun t _ _ _ => ReflectliteType.toType t) #[.agg #[.pointer (some ⟨10, 98, none⟩), .pointer (some a), .int .u64 150]]).run Tryz.prog w
    = .ok (.iface 187 (.agg #[.pointer (some ⟨10, 98, none⟩)])) w := by kernel_rfl
theorem Tryz.methodKind (h : Value) (w : World) : (Go.method 403 187 (.agg #[h]) "Kind").run Tryz.prog w = .ok (267, h) w := by kernel_rfl
theorem Tryz.kind27 (w : World) : ((ReflectliteType.abiMethod fun t => (fun a : Nat => Value.int IntKind.u8 (a : Int)) <$> Rtype.kind t) #[.pointer (some ⟨10, 98, none⟩)]).run Tryz.prog w = .ok (.int .u8 22) w := by kernel_rfl
theorem Tryz.kind25 (w : World) : ((ReflectliteType.abiMethod fun t => (fun a : Nat => Value.int IntKind.u8 (a : Int)) <$> Rtype.kind t) #[.pointer (some ⟨10, 23, none⟩)]).run Tryz.prog w = .ok (.int .u8 22) w := by kernel_rfl

/-! ### THE ENTRIES THAT READ OR WRITE MEMORY: laws with a premise on the cell (after Derived/Lib/ReflectliteSlice.lean's manner: each unfolding a lemma of its own, by rfl) -/
theorem rlm (z : Sem Value) (f : TypeId → Addr → Nat → Nat → Sem Value) (v : Value) :
    ReflectliteValue.method z f #[v] = (do match ← ReflectliteValue.parts v with | none => z | some (t, a, fl) => f t a fl (fl % 32)) := rfl
theorem Tryz.parts27 (a : Addr) (w : World) : (ReflectliteValue.parts (.agg #[.pointer (some ⟨10, 98, none⟩), .pointer (some a), .int .u64 150])).run Tryz.prog w = .ok (some (98, a, 150)) w := by kernel_rfl
theorem Tryz.isNil27 (a p : Addr) (W : World) (ha : W.cell? a = some (.pointer (some p))) :
    (ReflectliteValue.method (ReflectliteValue.valueError "reflectlite.Value.IsNil" 0) ReflectliteValue.isNil #[.agg #[.pointer (some ⟨10, 98, none⟩), .pointer (some a), .int .u64 150]]).run Tryz.prog W = .ok (.bool false) W := by
  rw [rlm]
  simp only [Sem.run_bind, Tryz.parts27, Result.andThen]
  simp [ReflectliteValue.isNil, loadVar, isAgg, underlying, Tryz.underlying98, ha, Result.andThen]

theorem Tryz.methodElem (h : Value) (w : World) : (Go.method 403 187 (.agg #[h]) "Elem").run Tryz.prog w = .ok (278, .agg #[h]) w := by kernel_rfl
theorem Tryz.methodImplements (h : Value) (w : World) : (Go.method 403 187 (.agg #[h]) "Implements").run Tryz.prog w = .ok (279, .agg #[h]) w := by kernel_rfl
theorem Tryz.methodAssignableTo (h : Value) (w : World) : (Go.method 403 187 (.agg #[h]) "AssignableTo").run Tryz.prog w = .ok (276, .agg #[h]) w := by kernel_rfl
theorem Tryz.elem27 (w : World) : (ReflectliteType.method ReflectliteType.elem #[.agg #[.pointer (some ⟨10, 98, none⟩)]]).run Tryz.prog w = .ok (.iface 187 (.agg #[.pointer (some ⟨10, 23, none⟩)])) w := by kernel_rfl
theorem Tryz.implements25 (w : World) : (ReflectliteType.relation "Implements" ReflectliteType.implements_ #[.agg #[.pointer (some ⟨10, 23, none⟩)], .iface 187 (.agg #[.pointer (some ⟨10, 36, none⟩)])]).run Tryz.prog w = .ok (.bool true) w := by kernel_rfl
theorem Tryz.typeOf25 (v : Value) (w : World) : (ReflectliteType.typeOf #[.iface 23 v]).run Tryz.prog w = .ok (.iface 187 (.agg #[.pointer (some ⟨10, 23, none⟩)])) w := by kernel_rfl
theorem Tryz.assignable25 (w : World) : (ReflectliteType.relation "AssignableTo" ReflectliteType.assignableTo #[.agg #[.pointer (some ⟨10, 23, none⟩)], .iface 187 (.agg #[.pointer (some ⟨10, 23, none⟩)])]).run Tryz.prog w = .ok (.bool true) w := by kernel_rfl
theorem Tryz.valueOf25 (e : Addr) (w : World) : (ReflectliteValue.unpack (.iface 23 (.pointer (some e)))).run Tryz.prog w
    = .ok (.agg #[.pointer (some ⟨10, 23, none⟩), .pointer (some ⟨w.heap.size, 0, none⟩), .int .u64 150]) (w.alloc (.cells #[.pointer (some e)] 23)) := by kernel_rfl

theorem Tryz.elemOf27 (w : World) : (Rtype.elem? 98).run Tryz.prog w = .ok (some 23) w := by kernel_rfl
theorem Tryz.mk25 (p : Addr) (w : World) : (ReflectliteValue.mk 23 p ReflectliteValue.flagAddr).run Tryz.prog w = .ok (.agg #[.pointer (some ⟨10, 23, none⟩), .pointer (some p), .int .u64 406]) w := by kernel_rfl
theorem Tryz.elemV27 (a p : Addr) (W : World) (ha : W.cell? a = some (.pointer (some p))) :
    (ReflectliteValue.method (ReflectliteValue.valueError "reflectlite.Value.Elem" 0) ReflectliteValue.elem #[.agg #[.pointer (some ⟨10, 98, none⟩), .pointer (some a), .int .u64 150]]).run Tryz.prog W
      = .ok (.agg #[.pointer (some ⟨10, 23, none⟩), .pointer (some p), .int .u64 406]) W := by
  rw [rlm]
  simp only [Sem.run_bind, Tryz.parts27, Result.andThen]
  simp [ReflectliteValue.elem, loadVar, isAgg, underlying, Tryz.underlying98, ha, Result.andThen, Tryz.elemOf27, Tryz.mk25]
theorem rls (v x : Value) : ReflectliteValue.set #[v, x] = (do
    let (some (dst, a, fl), some (src, b, _)) := (← ReflectliteValue.parts v, ← ReflectliteValue.parts x)
      | unsupported (.noEntry "extern/(internal/reflectlite.Value).Set.zeroValue")
    if fl / ReflectliteValue.flagAddr % 2 == 0 then unsupported (.noEntry "extern/(internal/reflectlite.Value).Set.unaddressable")
    let val ← loadVar src b
    if ← Rtype.directlyAssignable dst src then storeVar dst a val
    else if ← Rtype.implements dst src then
      if (← Rtype.kind src) == 20 then
        match val with
        | .nilIface => unsupported (.noEntry "extern/reflectlite: a nil value of one interface type handed on as a value of another")
        | _ => storeVar dst a val
      else storeVar dst a (.iface src val)
    else panicString ("reflectlite.Set: value of type " ++ (← Rtype.spelt src) ++ " is not assignable to type " ++ (← Rtype.spelt dst))
    pure (.tuple #[])) := rfl
theorem Tryz.parts25a (a : Addr) (w : World) : (ReflectliteValue.parts (.agg #[.pointer (some ⟨10, 23, none⟩), .pointer (some a), .int .u64 406])).run Tryz.prog w = .ok (some (23, a, 406)) w := by kernel_rfl
theorem Tryz.parts25 (a : Addr) (w : World) : (ReflectliteValue.parts (.agg #[.pointer (some ⟨10, 23, none⟩), .pointer (some a), .int .u64 150])).run Tryz.prog w = .ok (some (23, a, 150)) w := by kernel_rfl
theorem Tryz.direct25 (w : World) : (Rtype.directlyAssignable 23 23).run Tryz.prog w = .ok true w := by kernel_rfl
theorem Tryz.set25 (ta b e : Addr) (old : Value) (W : World) (hb : W.cell? b = some (.pointer (some e))) (ht : W.cell? ta = some old) (hf : W.frozen? ta = false) :
    (ReflectliteValue.set #[.agg #[.pointer (some ⟨10, 23, none⟩), .pointer (some ta), .int .u64 406], .agg #[.pointer (some ⟨10, 23, none⟩), .pointer (some b), .int .u64 150]]).run Tryz.prog W
      = .ok (.tuple #[]) (W.setCell ta (.pointer (some e))) := by
  rw [rls]
  simp only [Sem.run_bind, Tryz.parts25a, Tryz.parts25, Result.andThen]
  simp [ReflectliteValue.flagAddr, loadVar, isAgg, underlying, Tryz.underlying23, hb, Result.andThen, Tryz.direct25, storeVar, Value.cells, storeCells, Addr.add]
  rw [run_store Tryz.prog W ta _ _ (by rfl)]
  simp [ht, hf]

set_option maxHeartbeats 4000000 in
theorem as_hit (e t : Addr) (old : Value) (w : World) (hg : w.cell? ⟨0, 0, none⟩ = some (.iface 187 (.agg #[.pointer (some ⟨10, 36, none⟩)]))) (ht0 : w.cell? t = some old) (hf0 : w.frozen? t = false) :
    Calls Tryz.prog 61 #[.iface 23 (.pointer (some e)), .iface 98 (.pointer (some t))] w fun ev w' => ev = .returned (.bool true) ∧ w' = ((((w.alloc (.cells #[.pointer (some t)] 98)).alloc (.cells #[.pointer (some ⟨10, 98, none⟩), .pointer (some ⟨w.heap.size, 0, none⟩), .int .u64 150] 144)).alloc (.cells #[.pointer (some ⟨10, 98, none⟩), .pointer (some ⟨w.heap.size, 0, none⟩), .int .u64 150] 144)).alloc (.cells #[.pointer (some e)] 23)).setCell t (.pointer (some e)) := by
  have h6 := @run_callFunc_extern Tryz.prog 112 _ (fun args => ReflectliteValue.unpack (args.getD 0 (.tuple #[]))) Tryz.func112 (by kernel_rfl) (by kernel_rfl) (by kernel_rfl) (by kernel_rfl)
  have h7 := @run_callFunc_extern Tryz.prog 113 _ (ReflectliteValue.methodAny (ReflectliteValue.valueError "reflectlite.Value.Type" 0) (fun t _ _ _ => ReflectliteType.toType t)) Tryz.func113 (by kernel_rfl) (by kernel_rfl) (by kernel_rfl) (by kernel_rfl)
  have h8 := @run_callFunc_extern Tryz.prog 114 _ (ReflectliteValue.method (ReflectliteValue.valueError "reflectlite.Value.IsNil" 0) ReflectliteValue.isNil) Tryz.func114 (by kernel_rfl) (by kernel_rfl) (by kernel_rfl) (by kernel_rfl)
  have h27 := @run_callFunc_extern Tryz.prog 267 _ (ReflectliteType.abiMethod fun t => do pure (.int .u8 (← Rtype.kind t))) Tryz.func267 (by kernel_rfl) (by kernel_rfl) (by kernel_rfl) (by kernel_rfl)
  have h37 := @run_callFunc_extern Tryz.prog 278 _ (ReflectliteType.method ReflectliteType.elem) Tryz.func278 (by kernel_rfl) (by kernel_rfl) (by kernel_rfl) (by kernel_rfl)
  have h38 := @run_callFunc_extern Tryz.prog 279 _ (ReflectliteType.relation "Implements" ReflectliteType.implements_) Tryz.func279 (by kernel_rfl) (by kernel_rfl) (by kernel_rfl) (by kernel_rfl)
  have h10 := @run_callFunc_extern Tryz.prog 116 _ ReflectliteType.typeOf Tryz.func116 (by kernel_rfl) (by kernel_rfl) (by kernel_rfl) (by kernel_rfl)
  have h35 := @run_callFunc_extern Tryz.prog 276 _ (ReflectliteType.relation "AssignableTo" ReflectliteType.assignableTo) Tryz.func276 (by kernel_rfl) (by kernel_rfl) (by kernel_rfl) (by kernel_rfl)
  have h11 := @run_callFunc_extern Tryz.prog 168 _ (ReflectliteValue.method (ReflectliteValue.valueError "reflectlite.Value.Elem" 0) ReflectliteValue.elem) Tryz.func168 (by kernel_rfl) (by kernel_rfl) (by kernel_rfl) (by kernel_rfl)
  have h12 := @run_callFunc_extern Tryz.prog 169 _ ReflectliteValue.set Tryz.func169 (by kernel_rfl) (by kernel_rfl) (by kernel_rfl) (by kernel_rfl)
  have tO := Tryz.typeOf25
  have mA := Tryz.methodAssignableTo
  have a25 := Tryz.assignable25
  have v25 := Tryz.valueOf25
  have f6 := Tryz.valueOf27
  have f7 := Tryz.type27
  have mK := Tryz.methodKind
  have mE := Tryz.methodElem
  have mI := Tryz.methodImplements
  have k27 := Tryz.kind27
  have k25 := Tryz.kind25
  have e27 := Tryz.elem27
  have i25 := Tryz.implements25
  have n8 := Tryz.isNil27 ⟨w.heap.size, 0, none⟩ t ((w.alloc (.cells #[.pointer (some t)] 98)).alloc (.cells #[.pointer (some ⟨10, 98, none⟩), .pointer (some ⟨w.heap.size, 0, none⟩), .int .u64 150] 144)) (by simp)
  have hlt : 0 < w.heap.size := by
    rcases Nat.lt_or_ge 0 w.heap.size with h | h
    · exact h
    · simp [World.cell?, Array.getElem?_eq_none h] at hg
  have hg2 : ((w.alloc (.cells #[.pointer (some t)] 98)).alloc (.cells #[.pointer (some ⟨10, 98, none⟩), .pointer (some ⟨w.heap.size, 0, none⟩), .int .u64 150] 144)).cell? ⟨0, 0, none⟩ = some (.iface 187 (.agg #[.pointer (some ⟨10, 36, none⟩)])) := by
    rw [World.cell?_alloc_lt _ _ ⟨0, 0, none⟩ (by simp), World.cell?_alloc_lt _ _ ⟨0, 0, none⟩ hlt]; exact hg
  have htl : t.block < w.heap.size := by
    rcases Nat.lt_or_ge t.block w.heap.size with h | h
    · exact h
    · simp [World.cell?, Array.getElem?_eq_none h] at ht0
  have el := Tryz.elemV27 ⟨w.heap.size, 0, none⟩ t (((w.alloc (.cells #[.pointer (some t)] 98)).alloc (.cells #[.pointer (some ⟨10, 98, none⟩), .pointer (some ⟨w.heap.size, 0, none⟩), .int .u64 150] 144)).alloc (.cells #[.pointer (some ⟨10, 98, none⟩), .pointer (some ⟨w.heap.size, 0, none⟩), .int .u64 150] 144)) (by rw [World.cell?_alloc_lt _ _ ⟨w.heap.size, 0, none⟩ (by simp; omega)]; simp)
  have st := Tryz.set25 t ⟨w.heap.size + 1 + 1 + 1, 0, none⟩ e old ((((w.alloc (.cells #[.pointer (some t)] 98)).alloc (.cells #[.pointer (some ⟨10, 98, none⟩), .pointer (some ⟨w.heap.size, 0, none⟩), .int .u64 150] 144)).alloc (.cells #[.pointer (some ⟨10, 98, none⟩), .pointer (some ⟨w.heap.size, 0, none⟩), .int .u64 150] 144)).alloc (.cells #[.pointer (some e)] 23))
    (by rw [World.cell?_alloc_at _ _ _ _ (by simp)]; rfl)
    (by rw [World.cell?_alloc_lt _ _ t (by simp; omega), World.cell?_alloc_lt _ _ t (by simp; omega), World.cell?_alloc_lt _ _ t (by simp; omega), World.cell?_alloc_lt _ _ t htl]; exact ht0)
    (by rw [World.frozen?_alloc_old _ _ t (by simp; omega), World.frozen?_alloc_old _ _ t (by simp; omega), World.frozen?_alloc_old _ _ t (by simp; omega), World.frozen?_alloc_old _ _ t (Nat.ne_of_lt htl)]; exact hf0)
  go_enter Tryz.func61, Tryz.ntmps61
  go_wp2
  refine wp_loop_rounds 1 ?_
  rw [rounds_succ]
  go_wp2
  go_ret
  exact ⟨rfl, rfl⟩

theorem as_hit2 (e t : Addr) (old : Value) (w : World) (hg : w.cell? ⟨0, 0, none⟩ = some (.iface 187 (.agg #[.pointer (some ⟨10, 36, none⟩)]))) (ht0 : w.cell? t = some old) (hf0 : w.frozen? t = false) :
    Calls Tryz.prog 61 #[.iface 23 (.pointer (some e)), .iface 98 (.pointer (some t))] w fun ev w' => ev = .returned (.bool true) ∧ Below t.block w w' ∧ w'.cell? t = some (.pointer (some e)) ∧ (∀ k, k ≠ t.block → k < w.heap.size → w'.heap[k]? = w.heap[k]?) := by
  refine (as_hit e t old w hg ht0 hf0).mono fun ev w' ⟨h1, h2⟩ => ?_
  subst h2
  have htl : t.block < w.heap.size := World.block_lt_of_cell? w t ht0
  have hb := ((((Below.refl w.heap.size w).alloc (Nat.le_refl _) (.cells #[.pointer (some t)] 98)).alloc (by simp) (.cells #[.pointer (some ⟨10, 98, none⟩), .pointer (some ⟨w.heap.size, 0, none⟩), .int .u64 150] 144)).alloc (by simp; omega) (.cells #[.pointer (some ⟨10, 98, none⟩), .pointer (some ⟨w.heap.size, 0, none⟩), .int .u64 150] 144)).alloc (by simp; omega) (.cells #[.pointer (some e)] 23)
  refine ⟨h1, (hb.mono (Nat.le_of_lt htl)).setCell (Nat.le_refl _) _, ?_, ?_⟩
  · have hc := hb.cell htl
    rw [ht0] at hc
    exact World.cell?_setCell_same _ _ _ hc
  · intro k hk hkl
    rw [Below.heap_setCell _ _ _ _ hk]
    exact hb.block k hkl
end Go.Proofs.YtpbkeamjdolpgaaGreatDoor
namespace Go.Proofs.YtpbkeamjdolpgaaGreatDoor
open Go.RowKit Go.Lib Go.Extern.Stop Go.Stop Go.Extern

theorem run_eql_iface_int {P : Program} (w : World) {ti tp : TypeId} {ms : Array (String × TypeId)} {k : IntKind} {i : TypeInfo} (a : Int)
    (hi : P.underlying ti = some (.interface ms)) (hp : P.underlying tp = some (.int k)) (hinfo : P.info? tp = some i) (hcomp : i.comparable = true) :
    (binOp .eql ti (.iface tp (.int k a)) (.iface tp (.int k a))).run P w = .ok (.bool true) w := by
  have h : ∀ d : Nat, (Op.equalIn (d + 2) ti (.iface tp (.int k a)) (.iface tp (.int k a))).run P w = .ok true w := fun d => by
    simp [Op.equalIn, run_underlying hi, run_underlying hp, typeInfo, hinfo, hcomp]
  simp only [binOp]
  simp [Op.equal, Op.maxDepth, h 9998]

theorem Tryz.isTypeOf (v : Value) (w : World) : (Extern.ReflectliteType.typeOf #[.iface 30 v]).run Tryz.prog w = .ok (.iface 187 (.agg #[.pointer (some ⟨10, 30, none⟩)])) w := by kernel_rfl
theorem Tryz.cmpEntry : ∃ M : Array Value → Sem Value, (∀ args w, (callFunc 277 args).run Tryz.prog w = ((M args).run Tryz.prog w).andThen fun v w' => .ok (.value v) w') ∧
    ∀ w, (M #[.agg #[.pointer (some ⟨10, 30, none⟩)]]).run Tryz.prog w = .ok (.bool true) w :=
  ⟨Extern.ReflectliteType.method fun t => do Extern.Rtype.noPackHeld "Comparable" t; pure (.bool (← typeInfo t).comparable),
    @run_callFunc_extern Tryz.prog 277 _ _ Tryz.func277 (by kernel_rfl) (by kernel_rfl) (by kernel_rfl) (by kernel_rfl), fun w => by kernel_rfl⟩
theorem Tryz.isMethodComparable (v : Value) (w : World) : (Go.method 403 187 v "Comparable").run Tryz.prog w = .ok (277, v) w := by kernel_rfl
theorem Tryz.isComp : (Tryz.prog.info? 30).map (·.comparable) = some true := by kernel_rfl
theorem Tryz.noIsF (v : Value) (xT : TypeId) (w : World) : (Instr.typeAssert (.iface 23 v) xT 199 true).run Tryz.prog w = .ok (.tuple #[.nilIface, .bool false]) w := run_typeAssert_lacksB Tryz.underlying199 (by kernel_rfl) (by kernel_rfl) v xT w
theorem Tryz.hasUnwrapF (v : Value) (xT : TypeId) (w : World) : (Instr.typeAssert (.iface 23 v) xT 194 true).run Tryz.prog w = .ok (.tuple #[.iface 23 v, .bool true]) w := run_typeAssert_hasB Tryz.underlying194 (by kernel_rfl) v xT w
theorem Tryz.methodUnwrap (v : Value) (w : World) : (Go.method 403 23 v "Unwrap").run Tryz.prog w = .ok (270, v) w := by kernel_rfl

set_option maxHeartbeats 4000000 in
theorem is_fault (b : Nat) (c : Int) (w : World) (h1 : w.cell? ⟨b, 0, none⟩ = some (.int .i64 c)) :
    Calls Tryz.prog 62 #[.iface 23 (.pointer (some ⟨b, 0, none⟩)), .iface 30 (.int .i64 c)] w fun e w' => e = .returned (.bool true) ∧ w = w' := by
  obtain ⟨i, hi, hcmp⟩ := Option.map_eq_some_iff.1 Tryz.isComp
  have h8 := @run_callFunc_extern Tryz.prog 116 _ Extern.ReflectliteType.typeOf Tryz.func116 (by kernel_rfl) (by kernel_rfl) (by kernel_rfl) (by kernel_rfl)
  obtain ⟨M, h32, cT⟩ := Tryz.cmpEntry
  have tT := Tryz.isTypeOf
  have mR := Tryz.isMethodComparable
  have nE := Tryz.noIsF
  have uE := Tryz.hasUnwrapF
  have mU := Tryz.methodUnwrap
  have heq := run_eql_iface_int (P := Tryz.prog) w c Tryz.underlying36 Tryz.underlying30 hi hcmp
  have hty := run_eql_iface_types (P := Tryz.prog) 23 30 (.pointer (some ⟨b, 0, none⟩)) (.int .i64 c) Tryz.underlying36 (by decide) w
  clear hi hcmp
  go_enter Tryz.func62, Tryz.ntmps62
  go_wp2
  refine wp_loop_rounds 2 ?_
  rw [rounds_succ]
  go_wp2
  rw [rounds_succ]
  go_wp2
  go_ret
  exact ⟨rfl, rfl⟩

end Go.Proofs.YtpbkeamjdolpgaaGreatDoor
namespace Go.Proofs.YtpbkeamjdolpgaaGreatDoor
open Go.RowKit Go.Lib

def GlE (w : World) : Prop := w.cell? ⟨0, 0, none⟩ = some (.iface 187 (.agg #[.pointer (some ⟨10, 36, none⟩)]))
theorem GlE.below {w w' : World} (h : GlE w) (hb : Below w.heap.size w w') : GlE w' := by
  unfold GlE at h ⊢
  rw [hb.cell (World.block_lt_of_cell? w _ h)]
  exact h
end Go.Proofs.YtpbkeamjdolpgaaGreatDoor
namespace Go.Proofs.YtpbkeamjdolpgaaGreatDoor
open Go.RowKit Go.Lib Go.Shelf Go.Sort

end Go.Proofs.YtpbkeamjdolpgaaGreatDoor
namespace Go.Proofs.YtpbkeamjdolpgaaGreatDoor
open Go.RowKit Go.Lib Go.Shelf Go.Sort

end Go.Proofs.YtpbkeamjdolpgaaGreatDoor
namespace Go.Proofs.YtpbkeamjdolpgaaGreatDoor
open Go.RowKit Go.Lib Go.Shelf Go.Sort

end Go.Proofs.YtpbkeamjdolpgaaGreatDoor
namespace Go.Proofs.YtpbkeamjdolpgaaGreatDoor
open Go.RowKit Go.Lib Go.Shelf Go.Sort

end Go.Proofs.YtpbkeamjdolpgaaGreatDoor
namespace Go.Proofs.YtpbkeamjdolpgaaGreatDoor
open Go.RowKit Go.Lib Go.Shelf Go.Sort

end Go.Proofs.YtpbkeamjdolpgaaGreatDoor
namespace Go.Proofs.YtpbkeamjdolpgaaGreatDoor
open Go.RowKit Go.Lib Go.Shelf Go.Sort

end Go.Proofs.YtpbkeamjdolpgaaGreatDoor
namespace Go.Proofs.YtpbkeamjdolpgaaGreatDoor
open Go.ChangeShapes Go.WideShapes Go.RowKit Go.Lib Go.ChangeAt

theorem s_own : ownKnob Tryz.prog.godebug = none := by kernel_rfl
theorem s_et : Tryz.prog.globalNamed "errors.errorType" = some 0 := by kernel_rfl
theorem s_rt : (Tryz.prog.cutTypes.find? (·.1 == "internal/reflectlite.rtype")).map (·.2) = some 187 := by kernel_rfl
theorem s_oneRow : ((List.range 303).filter fun t => Tryz.prog.rowNamed t [101, 114, 114, 111, 114]) = [36] := by kernel_rfl
theorem s_size : Tryz.prog.types.size = 303 := by kernel_rfl

def seatLaid : List (String × DataW Unit) := [("unicode/utf8.acceptRanges", Rows.laid_unicode_utf8_acceptRanges), ("errors.errorType", Rows.laid_errors_errorType), ("unicode.properties", Rows.laid_unicode_properties), ("unicode.Digit", Rows.laid_unicode_Digit), ("unicode.Letter", Rows.laid_unicode_Letter), ("unicode/utf8.first", Rows.laid_unicode_utf8_first)]
def seatPlain : List (String × DataW Unit) := [("unicode/utf8.acceptRanges", Rows.laid_unicode_utf8_acceptRanges), ("unicode.properties", Rows.laid_unicode_properties), ("unicode.Digit", Rows.laid_unicode_Digit), ("unicode.Letter", Rows.laid_unicode_Letter), ("unicode/utf8.first", Rows.laid_unicode_utf8_first)]
theorem s_filter : (seatLaid.filter fun x => x.2.handleName?.isNone) = seatPlain := by kernel_rfl
theorem s_filterH : (seatLaid.filter fun x => x.2.handleName?.isSome) = [("errors.errorType", Rows.laid_errors_errorType)] := by kernel_rfl
theorem s_accept : (Rows.laid_unicode_utf8_acceptRanges : DataW Unit) = acceptData := by kernel_rfl
theorem s_props : (Rows.laid_unicode_properties : DataW Unit) = tabData .u8 propertiesTab := by kernel_rfl
theorem s_digit : (Rows.laid_unicode_Digit : DataW Unit) = Pinned.digit := by kernel_rfl
theorem s_letter : (Rows.laid_unicode_Letter : DataW Unit) = Pinned.letter := by kernel_rfl
theorem s_first : (Rows.laid_unicode_utf8_first : DataW Unit) = Pinned.utf8First := by kernel_rfl

theorem tabIs_of_reads {P : Program} {W : World} {name : String} {k : IntKind} {zs : List Int} {g : Nat} {t e : TypeId} {n : Nat}
    (hg : P.globalNamed name = some g) (hty : (P.globals[g]?).map (·.type) = some t) (ht : P.underlying t = some (.array n e)) (he : P.underlying e = some (.int k)) (hce : P.cellsOf e = 1) (hct : P.cellsOf t = n)
    (h : VarReads P W name (tabData k zs)) : TabIs P W name k zs := by
  obtain ⟨g', t', cs, fuel, p, hg', ht', hvar, hd⟩ := h
  obtain rfl := Option.some.inj (hg.symm.trans hg')
  obtain rfl := Option.some.inj (hty.symm.trans ht')
  unfold TabIs
  rw [hvar, ← cells_of_tab ht he hce hct hd]

theorem gl_of_laid {W : World} (h : laidMetH Tryz.prog seatLaid W) : Gl W := by
  have h1 := (laidMetH_iff.1 h).1
  rw [s_filter] at h1
  have hp : VarReads Tryz.prog W "unicode.properties" (tabData .u8 propertiesTab) := s_props ▸ Lib.laidMet.reads h1 (.tail _ (.head _))
  have hd : VarReads Tryz.prog W "unicode.Digit" (rtabData digitT) := Pinned.digit_eq ▸ s_digit ▸ Lib.laidMet.reads h1 (.tail _ (.tail _ (.head _)))
  have hl : VarReads Tryz.prog W "unicode.Letter" (rtabData letterT) := Pinned.letter_eq ▸ s_letter ▸ Lib.laidMet.reads h1 (.tail _ (.tail _ (.tail _ (.head _))))
  have hf : VarReads Tryz.prog W "unicode/utf8.first" firstData := Pinned.utf8First_eq ▸ s_first ▸ Lib.laidMet.reads h1 (.tail _ (.tail _ (.tail _ (.tail _ (.head _)))))
  have ha : VarReads Tryz.prog W "unicode/utf8.acceptRanges" acceptData := s_accept ▸ Lib.laidMet.reads h1 (.head _)
  have xD : RExtra Tryz.prog Tryz.lays261_ren := ⟨by kernel_rfl, by kernel_rfl, by kernel_rfl, by kernel_rfl, by kernel_rfl, by kernel_rfl, by kernel_rfl, by kernel_rfl⟩
  have xU : U8Extra Tryz.prog Tryz.lays260_ren := ⟨by kernel_rfl, by kernel_rfl, by kernel_rfl, by kernel_rfl, by kernel_rfl, by kernel_rfl, by kernel_rfl⟩
  exact ⟨tabIs_of_reads (g := 1) (t := 202) (e := 5) (by kernel_rfl) (by kernel_rfl) Tryz.underlying202 Tryz.underlying5 (by kernel_rfl) (by kernel_rfl) hp,
    rvar_of_reads (g := 2) Tryz.lays261 xD (by kernel_rfl) (by kernel_rfl) hl, rvar_of_reads (g := 3) Tryz.lays261 xD (by kernel_rfl) (by kernel_rfl) hd, utf8Tabs_of_reads Tryz.lays260 xU hf ha⟩

theorem glE_of_laid {W : World} (h : laidMetH Tryz.prog seatLaid W) : GlE W := by
  have h2 := (laidMetH_iff.1 h).2
  rw [s_filterH] at h2
  obtain ⟨name, u, ty, e1, e2, e3, e4, e5⟩ := h2 _ (List.mem_singleton.2 rfl)
  have en : name = [101, 114, 114, 111, 114] := (Option.some.inj e1).symm
  subst en
  obtain rfl := Option.some.inj (s_rt.symm.trans e2)
  have hm : ty ∈ (List.range 303).filter fun t => Tryz.prog.rowNamed t [101, 114, 114, 111, 114] := List.mem_filter.2 ⟨List.mem_range.2 (by rw [← s_size]; exact e3), e4⟩
  rw [s_oneRow] at hm
  obtain rfl := List.mem_singleton.1 hm
  have hh : typeHandle Tryz.prog 36 = .pointer (some ⟨10, 36, none⟩) := by kernel_rfl
  rw [hh] at e5
  unfold GlE
  simpa using World.var?_cell s_et e5 0

theorem glT_of_laid {W : World} (h : laidMetH Tryz.prog seatLaid W) : Gl W ∧ GlE W := ⟨gl_of_laid h, glE_of_laid h⟩
/-! ### A world that meets the condition -/
noncomputable def seatWorld0 (os : Os) : World :=
  let w0 := World.holding Tryz.prog os ⟨#[], #[], []⟩
  { w0 with heap := w0.heap.modify 0 fun
      | .cells _ t frozen => .cells #[.iface 187 (.agg #[.pointer (some ⟨10, 36, none⟩)])] t frozen
      | o => o }
noncomputable def seatWorld (os : Os) : World := (seatWorld0 os).layVars Tryz.prog seatPlain
theorem seatWorld_os (os : Os) : (seatWorld os).os = os := World.layVars_os _ _ _
theorem seatWorld_shaped (os : Os) (args : Array Value) : ((seatWorld os).forCall (fun _ _ => 0) ⟨#[], args, []⟩).Shaped Tryz.prog := World.shaped_of_ZipB (by kernel_rfl) (by kernel_rfl)
theorem seatWorld_fits (os : Os) : (seatWorld0 os).layFits Tryz.prog seatPlain [] = true := by kernel_rfl
theorem seatWorld_ifaces (os : Os) : (seatWorld0 os).layIfaces Tryz.prog seatPlain (seatWorld os) = true := by kernel_rfl
theorem seatPlain_in : (seatPlain.filter fun x => (seatPlain.map (·.1)).contains x.1) = seatPlain := by kernel_rfl
theorem seatPlain_out : (seatPlain.filter fun x => !(seatPlain.map (·.1)).contains x.1) = [] := by kernel_rfl
theorem seatWorld_plain (os : Os) : laidMet Tryz.prog seatPlain (seatWorld os) :=
  laidMet_layVars (w0 := seatWorld0 os) (seatPlain.map (·.1)) [] (by rw [seatPlain_in]; rfl) (by rw [seatPlain_in]; exact seatWorld_fits os) (by rw [seatPlain_in]; exact seatWorld_ifaces os) (by rw [seatPlain_out]; exact LaidIn.none)
theorem seatWorld_handle (os : Os) : ([("errors.errorType", (Rows.laid_errors_errorType : DataW Unit))].all (handleAtB Tryz.prog (seatWorld os))) = true := by kernel_rfl
theorem seatWorld_met (os : Os) : laidMetH Tryz.prog seatLaid (seatWorld os) :=
  laidMetH_of_parts (by rw [s_filter]; exact seatWorld_plain os) (by rw [s_filterH]; exact seatWorld_handle os)
theorem seatWorld_call (os : Os) (args : Array Value) : laidMetH Tryz.prog seatLaid ((seatWorld os).forCall (fun _ _ => 0) ⟨#[], args, []⟩).memory :=
  (seatWorld_met os).of_heap (by simp [World.memory, World.forCall, Input.heap])
end Go.Proofs.YtpbkeamjdolpgaaGreatDoor
namespace Go.Proofs.YtpbkeamjdolpgaaGreatDoor
def putS : List (List UInt8) → List UInt8 → List (List UInt8)
  | [], s => [s]
  | x :: r, s => if x < s then x :: putS r s else if x = s then x :: r else s :: x :: r
def risL (l : List (List UInt8)) : List (List UInt8) := l.foldl putS []
theorem lt_tri (a b : List UInt8) (h1 : ¬ a < b) (h2 : ¬ a = b) : b < a := by
  refine Decidable.byContradiction fun h3 => h2 (List.le_antisymm ?_ ?_)
  · exact h3
  · exact h1
theorem putS_mem : ∀ (l : List (List UInt8)) (s x : List UInt8), x ∈ putS l s ↔ x = s ∨ x ∈ l
  | [], s, x => by simp [putS]
  | y :: r, s, x => by
    rw [putS]
    split
    · rw [List.mem_cons, putS_mem r s x, List.mem_cons]
      constructor
      · rintro (h | h | h) <;> simp [h]
      · rintro (h | h | h) <;> simp [h]
    · split
      · next h1 h2 =>
        subst h2
        rw [List.mem_cons]
        constructor
        · exact fun h => .inr h
        · rintro (h | h)
          · exact .inl h
          · exact h
      · simp
theorem putS_rise : ∀ (l : List (List UInt8)) (s : List UInt8), l.Pairwise (· < ·) → (putS l s).Pairwise (· < ·)
  | [], s, _ => by simp [putS]
  | y :: r, s, h => by
    rw [putS]
    obtain ⟨h1, h2⟩ := List.pairwise_cons.1 h
    split
    · next hl =>
      refine List.pairwise_cons.2 ⟨fun a ha => ?_, putS_rise r s h2⟩
      rcases (putS_mem r s a).1 ha with rfl | ha
      · exact hl
      · exact h1 a ha
    · split
      · exact h
      · next hl hne =>
        have hlt := lt_tri y s hl hne
        refine List.pairwise_cons.2 ⟨fun a ha => ?_, h⟩
        rcases List.mem_cons.1 ha with rfl | ha
        · exact hlt
        · exact List.lt_trans hlt (h1 a ha)
theorem foldS : ∀ (l a : List (List UInt8)), a.Pairwise (· < ·) → (l.foldl putS a).Pairwise (· < ·) ∧ ∀ x, x ∈ l.foldl putS a ↔ x ∈ l ∨ x ∈ a
  | [], a, h => ⟨h, fun x => by simp⟩
  | s :: r, a, h => by
    obtain ⟨h1, h2⟩ := foldS r (putS a s) (putS_rise a s h)
    refine ⟨h1, fun x => ?_⟩
    rw [List.foldl_cons, h2 x, putS_mem, List.mem_cons]
    constructor
    · rintro (h | h | h) <;> simp [h]
    · rintro ((h | h) | h) <;> simp [h]
theorem risL_rise (l : List (List UInt8)) : (risL l).Pairwise (· < ·) := (foldS l [] .nil).1
theorem risL_mem (l : List (List UInt8)) (x : List UInt8) : x ∈ risL l ↔ x ∈ l := by
  rw [risL, (foldS l [] .nil).2 x]
  simp
theorem rise_eq {a b : List (List UInt8)} (ha : a.Pairwise (· < ·)) (hb : b.Pairwise (· < ·)) (h : ∀ x, x ∈ a ↔ x ∈ b) : a = b := by
  have na : a.Nodup := ha.imp fun h e => by subst e; exact List.lt_irrefl _ h
  have nb : b.Nodup := hb.imp fun h e => by subst e; exact List.lt_irrefl _ h
  exact ((List.perm_ext_iff_of_nodup na nb).2 h).eq_of_pairwise (le := fun a b => a < b) (fun x y _ _ h1 h2 => (List.lt_irrefl _ (List.lt_trans h1 h2)).elim) ha hb
theorem sort_ris {ss l : List (List UInt8)} (hn : ss.Nodup) (h : ∀ x, x ∈ ss ↔ x ∈ l) : ss.mergeSort (fun x y => decide (x ≤ y)) = risL l := by
  have tr : ∀ a b c : List UInt8, decide (a ≤ b) = true → decide (b ≤ c) = true → decide (a ≤ c) = true := fun a b c h1 h2 => by simp only [decide_eq_true_eq] at *; exact List.le_trans h1 h2
  have tot : ∀ a b : List UInt8, (decide (a ≤ b) || decide (b ≤ a)) = true := fun a b => by simp only [Bool.or_eq_true, decide_eq_true_eq]; exact List.le_total a b
  have hp := List.mergeSort_perm ss (fun x y => decide (x ≤ y))
  refine rise_eq ?_ (risL_rise l) fun x => by rw [hp.mem_iff, h x, risL_mem]
  have h1 := List.pairwise_mergeSort tr tot ss
  have h2 : (ss.mergeSort (fun x y => decide (x ≤ y))).Pairwise (· ≠ ·) := hp.nodup_iff.2 hn
  refine (h1.and h2).imp fun {a b} hab => ?_
  obtain ⟨h3, h4⟩ := hab
  simp only [decide_eq_true_eq] at h3
  exact Decidable.byContradiction fun h5 => h4 (List.le_antisymm h3 h5)
end Go.Proofs.YtpbkeamjdolpgaaGreatDoor
namespace Go.Proofs.YtpbkeamjdolpgaaGreatDoor

abbrev Env := List (Option (Nat × List UInt8 × Nat))
def findE : Env → Nat → List UInt8 → Bool → Option Nat
  | [], _, _, _ => none
  | some (k', s', a) :: r, k, s, own => if k = k' ∧ s = s' then some a else findE r k s own
  | none :: r, k, s, own => if own then none else findE r k s false
def wTrue : List UInt8 := [116, 114, 117, 101]
def wFalse : List UInt8 := [102, 97, 108, 115, 101]
def wChildren : List UInt8 := [99, 104, 105, 108, 100, 114, 101, 110]
def truthB (s : List UInt8) : Bool := decide (s = wTrue) || decide (s = wFalse)
def fn1 : List (List UInt8) := [[108, 101, 110], [97, 98, 115], [102, 108, 111, 111, 114], [109, 105, 110], [109, 97, 120]]
def fn2 : List (List UInt8) := [[114, 97, 110, 103, 101]]
def md0 : List (List UInt8) := [[101, 109, 112, 116, 121], [102, 117, 108, 108], [99, 104, 105, 108, 100, 114, 101, 110]]
def md1 : List (List UInt8) := [[100, 111, 116, 115]]
def md2 : List (List UInt8) := [[104, 97, 108, 102], [98, 111, 120], [100, 105, 97, 109, 111, 110, 100]]
def mb0 : List (List UInt8) := [[117, 110, 105, 111, 110], [105, 110, 116, 101, 114, 115, 101, 99, 116, 105, 111, 110], [100, 105, 102, 102, 101, 114, 101, 110, 99, 101], [120, 111, 114], [104, 117, 108, 108], [109, 105, 110, 107, 111, 119, 115, 107, 105], [99, 111, 109, 112, 108, 101, 109, 101, 110, 116], [105, 110, 116, 101, 114, 105, 111, 114], [99, 108, 111, 115, 117, 114, 101], [98, 111, 117, 110, 100, 97, 114, 121], [114, 101, 103, 117, 108, 97, 114]]
def mb1 : List (List UInt8) := [[109, 111, 118, 101], [115, 116, 114, 101, 116, 99, 104], [109, 105, 114, 114, 111, 114], [116, 117, 114, 110], [109, 97, 112]]
def fnB (s : List UInt8) : Option Nat := if s ∈ fn1 then some 1 else if s ∈ fn2 then some 2 else none
def mdB (s : List UInt8) : Option (Nat × Bool) :=
  if s ∈ md0 then some (0, false) else if s ∈ md1 then some (1, false) else if s ∈ md2 then some (2, false) else if s ∈ mb0 then some (0, true) else if s ∈ mb1 then some (1, true) else none
inductive Ev where
  | call (n : List UInt8)
  | miss (n : List UInt8) (p : Int)
  | bad (c : Int) (n : List UInt8) (p : Int)
def argc : List Nd → Nat
  | [] => 0
  | .mk _ _ l _ :: _ => l.length
def bodyOf : List Nd → List Nd
  | [] => []
  | .mk _ _ l _ :: _ => l
def exprE (ρ : Env) (k : Int) (n : List UInt8) (kids : List Nd) (p : Int) : List Ev :=
  if k = 10 then (if (findE ρ 0 n false).isNone && !truthB n then [.miss n p] else [])
  else if k = 13 then .call n :: (match (findE ρ 1 n false).or (fnB n) with
    | none => [.miss n p]
    | some a => if argc kids = a then [] else [.bad 281 n p])
  else []
mutual
def evE (ρ : Env) : Nd → List Ev
  | .mk k n kids p => exprE ρ k n kids p ++ evEs ρ kids
def evEs (ρ : Env) : List Nd → List Ev
  | [] => []
  | x :: r => evE ρ x ++ evEs ρ r
end
def dupE (ρ : Env) (n : List UInt8) (p : Int) : List Ev := if (findE ρ 0 n true).isSome || truthB n then [.bad 280 n p] else []
def defE (ρ : Env) (k : Nat) (n : List UInt8) (p : Int) : List Ev := if (if k = 1 then (fnB n).isSome else (mdB n).isSome) || (findE ρ k n true).isSome then [.bad 280 n p] else []
def parE : Env → List Nd → List Ev
  | _, [] => []
  | ρ, .mk _ n _ p :: r => dupE ρ n p ++ parE (some (0, n, 0) :: ρ) r
def parV : Env → List Nd → Env
  | ρ, [] => ρ
  | ρ, .mk _ n _ _ :: r => parV (some (0, n, 0) :: ρ) r
def callE (ρ : Env) (m : Nat) (n : List UInt8) (kids : List Nd) (p : Int) : List Ev :=
  .call n :: (match ((findE ρ 2 n false).map fun a => (a, true)).or (if n = wChildren ∧ m = 0 then none else mdB n) with
    | none => [.miss n p]
    | some (a, bl) => if argc kids ≠ a ∨ (1 < kids.length ∧ bl = false) then [.bad 281 n p] else [])
def envS (ρ : Env) : Nd → Env
  | .mk k n kids _ => if k = 1 then some (0, n, 0) :: ρ else if k = 2 then some (2, n, argc kids) :: ρ else if k = 3 then some (1, n, argc kids) :: ρ else ρ
mutual
def evS : Nd → Env → Nat → List Ev
  | .mk k n kids p, ρ, m => if k = 1 then dupE ρ n p ++ evEs ρ kids else if k = 2 then defE ρ 2 n p ++ parE (none :: some (2, n, argc kids) :: ρ) (bodyOf kids) ++ evT kids (parV (none :: some (2, n, argc kids) :: ρ) (bodyOf kids)) (m + 1)
      else if k = 3 then defE ρ 1 n p ++ parE (none :: some (1, n, argc kids) :: ρ) (bodyOf kids) ++ evEs (parV (none :: some (1, n, argc kids) :: ρ) (bodyOf kids)) kids.tail
      else if k = 5 then (if truthB n then [.bad 280 n p] else []) ++ evEs ρ (kids.take 1) ++ evT kids (some (0, n, 0) :: ρ) m
      else if k = 6 then evEs ρ (kids.take 1) ++ evT kids ρ m
      else callE ρ m n kids p ++ evEs ρ (bodyOf kids) ++ evT kids ρ m
def evT : List Nd → Env → Nat → List Ev
  | [], _, _ => []
  | _ :: r, ρ, m => evBs r ρ m
def evBs : List Nd → Env → Nat → List Ev
  | [], _, _ => []
  | x :: r, ρ, m => evB x ρ m ++ evBs r ρ m
def evB : Nd → Env → Nat → List Ev
  | .mk _ _ l _, ρ, m => evSs l (none :: ρ) m
def evSs : List Nd → Env → Nat → List Ev
  | [], _, _ => []
  | x :: r, ρ, m => evS x ρ m ++ evSs r (envS ρ x) m
end
def evX (l : List Nd) : List Ev := evSs l [none] 0
def wrongE : List Ev → Option (Int × List UInt8 × Int)
  | [] => none
  | .call _ :: r => wrongE r
  | .miss n p :: _ => some (280, n, p)
  | .bad c n p :: _ => some (c, n, p)
def missE : List Ev → List (List UInt8)
  | [] => []
  | .miss n _ :: r => n :: missE r
  | _ :: r => missE r
def calledE : List Ev → List (List UInt8)
  | [] => []
  | .call n :: r => n :: calledE r
  | _ :: r => calledE r
theorem wrongE_app (a b : List Ev) : wrongE (a ++ b) = (wrongE a).or (wrongE b) := by
  induction a with
  | nil => simp [wrongE]
  | cons x r ih => cases x <;> simp [wrongE, ih]
theorem missE_app (a b : List Ev) : missE (a ++ b) = missE a ++ missE b := by
  induction a with
  | nil => rfl
  | cons x r ih => cases x <;> simp [missE, ih]
theorem calledE_app (a b : List Ev) : calledE (a ++ b) = calledE a ++ calledE b := by
  induction a with
  | nil => rfl
  | cons x r ih => cases x <;> simp [calledE, ih]
end Go.Proofs.YtpbkeamjdolpgaaGreatDoor
namespace Go.Proofs.YtpbkeamjdolpgaaGreatDoor
open Go.RowKit Go.Lib

structure Owp (P : Nat → Prop) (w w' : World) : Prop where
  os : w'.os = w.os
  tape : w'.tape = w.tape
  output : w'.output = w.output
  size : w.heap.size ≤ w'.heap.size
  block : ∀ k, k < w.heap.size → ¬ P k → w'.heap[k]? = w.heap[k]?
theorem Owp.refl (P : Nat → Prop) (w : World) : Owp P w w := ⟨rfl, rfl, rfl, Nat.le_refl _, fun _ _ _ => rfl⟩
theorem Owp.trans {P : Nat → Prop} {w w1 w2 : World} (h : Owp P w w1) (k : Owp P w1 w2) : Owp P w w2 :=
  ⟨k.os.trans h.os, k.tape.trans h.tape, k.output.trans h.output, Nat.le_trans h.size k.size, fun i hi hn => (k.block i (Nat.lt_of_lt_of_le hi h.size) hn).trans (h.block i hi hn)⟩
theorem Owp.of_below {P : Nat → Prop} {w w' : World} (h : Below w.heap.size w w') : Owp P w w' := ⟨h.os, h.tape, h.output, h.size, fun k hk _ => h.block k hk⟩
theorem Owp.below {P : Nat → Prop} {w w1 w2 : World} (h : Owp P w w1) (k : Below w1.heap.size w1 w2) : Owp P w w2 := h.trans (Owp.of_below k)
theorem Owp.cell {P : Nat → Prop} {w w' : World} (h : Owp P w w') {p : Addr} {v : Value} (hn : ¬ P p.block) (hc : w.cell? p = some v) : w'.cell? p = some v :=
  (World.cell?_of_block (h.block p.block (World.block_lt_of_cell? w p hc) hn)).trans hc
theorem Owp.keep {P : Nat → Prop} {w w' : World} (h : Owp P w w') {k : Nat} {o : Obj} (hn : ¬ P k) (hk : w.heap[k]? = some o) : w'.heap[k]? = some o :=
  (h.block k (Array.getElem?_eq_some_iff.1 hk).1 hn).trans hk

def EnvAt (w : World) (P : Nat → Prop) : Env → Value → Prop
  | [], v => v = .func (.func 135) #[] #[]
  | none :: r, v => ∃ b u, v = .func (.func 202) #[] #[.pointer (some ⟨b, 0, none⟩)] ∧ ¬ P b ∧ w.heap[b]? = some (.cells #[u] 210 (0, 0)) ∧ EnvAt w P r u
  | some (k, s, a) :: r, v => ∃ bk bs bt bn u, v = .func (.func 234) #[] #[.pointer (some ⟨bk, 0, none⟩), .pointer (some ⟨bs, 0, none⟩), .pointer (some ⟨bt, 0, none⟩), .pointer (some ⟨bn, 0, none⟩)] ∧
      (¬ P bk ∧ ¬ P bs ∧ ¬ P bt ∧ ¬ P bn) ∧ w.heap[bk]? = some (.cells #[.int .i64 k] 3 (0, 0)) ∧ w.heap[bs]? = some (.cells #[.string ⟨s.toArray⟩] 9 (0, 0)) ∧
      w.heap[bt]? = some (.cells #[.int .i64 a, .bool (decide (k = 2))] 171 (0, 0)) ∧ w.heap[bn]? = some (.cells #[u] 210 (0, 0)) ∧ EnvAt w P r u
theorem EnvAt.owp {P : Nat → Prop} {w w' : World} (ho : Owp P w w') : ∀ {ρ : Env} {v : Value}, EnvAt w P ρ v → EnvAt w' P ρ v
  | [], _, h => h
  | none :: r, _, h => by
    obtain ⟨b, u, rfl, h1, h2, h3⟩ := h
    exact ⟨b, u, rfl, h1, ho.keep h1 h2, EnvAt.owp ho h3⟩
  | some (k, s, a) :: r, _, h => by
    obtain ⟨bk, bs, bt, bn, u, rfl, ⟨n1, n2, n3, n4⟩, h1, h2, h3, h4, h5⟩ := h
    exact ⟨bk, bs, bt, bn, u, rfl, ⟨n1, n2, n3, n4⟩, ho.keep n1 h1, ho.keep n2 h2, ho.keep n3 h3, ho.keep n4 h4, EnvAt.owp ho h5⟩
theorem EnvAt.below {P : Nat → Prop} {w w' : World} {ρ : Env} {v : Value} (h : EnvAt w P ρ v) (hb : Below w.heap.size w w') : EnvAt w' P ρ v := h.owp (Owp.of_below hb)
def tkA (ρ : Env) (k : Nat) (s : List UInt8) (own : Bool) : Nat := (findE ρ k s own).getD 0
def tkB (ρ : Env) (k : Nat) (s : List UInt8) (own : Bool) : Bool := (findE ρ k s own).isSome && decide (k = 2)
def TkEnd (ρ : Env) (k : Nat) (s : List UInt8) (own : Bool) (w : World) (e : Ending) (w' : World) : Prop :=
  e = .returned (.tuple #[.agg #[.int .i64 (tkA ρ k s own), .bool (tkB ρ k s own)], .bool (findE ρ k s own).isSome]) ∧ Below w.heap.size w w'
theorem ret_tk {R : Ending → World → Prop} {fn : Func} {p q : Tmp} (hr : fn.results = #[.cell p 171, .tmp q]) {a : Act} {w : World} {g : Nat} {v0 v1 v : Value} (hp : a.tmps.getD p undef = .pointer (some ⟨g, 0, none⟩)) (hq : a.tmps.getD q undef = v) (hd : a.defers = [])
    (c0 : w.cell? ⟨g, 0, none⟩ = some v0) (c1 : w.cell? ⟨g, 1, none⟩ = some v1) (h : R (.returned (.tuple #[.agg #[v0, v1], v])) w) : bodyPost Tryz.prog fn R .ret a w := by
  have hp' : a.tmps[p]?.getD undef = .pointer (some ⟨g, 0, none⟩) := by simpa using hp
  have hq' : a.tmps[q]?.getD undef = v := by simpa using hq
  exact bodyPost_ret (v := .tuple #[.agg #[v0, v1], v]) (by simp [results, hr, hp', hq', go_sem, c0, c1]) hd h

theorem truth_any (s : List UInt8) (w : World) : Calls Tryz.prog 203 #[.string ⟨s.toArray⟩] w fun e w' => e = .returned (.bool (truthB s)) ∧ w = w' := by
  by_cases h1 : s = wTrue
  · subst h1
    go_enter Tryz.func203, Tryz.ntmps203
    go_wp2
    go_ret
    exact ⟨rfl, rfl⟩
  · by_cases h2 : s = wFalse
    · subst h2
      go_enter Tryz.func203, Tryz.ntmps203
      go_wp2
      go_ret
      exact ⟨rfl, rfl⟩
    · have Q1 := str_ne h1
      have Q2 := str_ne h2
      have H : truthB s = false := by simp [truthB, h1, h2]
      rw [H]
      clear H h1 h2
      unfold wTrue at Q1
      unfold wFalse at Q2
      go_enter Tryz.func203, Tryz.ntmps203
      go_wp2
      go_ret
      exact ⟨rfl, rfl⟩
set_option maxHeartbeats 1000000 in
theorem none_any (k : Nat) (s : List UInt8) (own : Bool) (w : World) : Calls Tryz.prog 135 #[.int .i64 k, .string ⟨s.toArray⟩, .bool own] w (TkEnd [] k s own w) := by
  have hF : Hid (tkA [] k s own = 0 ∧ tkB [] k s own = false ∧ (findE [] k s own).isSome = false) := ⟨rfl, rfl, rfl⟩
  go_enter Tryz.func135, Tryz.ntmps135
  go_wp2
  refine ret_tk rfl rfl rfl rfl (by simp [go_sem]; rfl) (by simp [go_sem]; rfl) ⟨by rw [hF.out.1, hF.out.2.1, hF.out.2.2]; rfl, ?_⟩
  exact (Below.refl _ _).alloc (Nat.le_refl _) _
def EnvCall (w : World) (ρ : Env) (v : Value) : Prop := ∃ F cap, v = .func (.func F) #[] cap ∧ (∀ args w, (callFunc F args).run Tryz.prog w = .ok (.enter F args) w) ∧
  ∀ (k : Nat) (s : List UInt8) (own : Bool), Calls Tryz.prog F (#[.int .i64 k, .string ⟨s.toArray⟩, .bool own] ++ cap) w (TkEnd ρ k s own w)
theorem Box2.new (w : World) (a b : Value) : (w.alloc (.cells #[a, b] 171)).heap[w.heap.size]? = some (.cells #[a, b] 171 (0, 0)) := heap_alloc_new w _
set_option maxHeartbeats 4000000 in
set_option maxRecDepth 100000 in
theorem env_any (P : Nat → Prop) : ∀ (ρ : Env) (v : Value) (w : World), EnvAt w P ρ v → EnvCall w ρ v
  | [], v, w, h => by
    obtain rfl : v = _ := h
    exact ⟨_, #[], rfl, enters_of Tryz.func135 (by kernel_rfl) rfl, fun k s own => by simpa using none_any k s own w⟩
  | none :: r, v, w, h => by
    obtain ⟨b, u, rfl, hb, h1, h2⟩ := h
    refine ⟨_, _, rfl, enters_of Tryz.func202 (by kernel_rfl) rfl, fun k s own => ?_⟩
    have hA : Below w.heap.size w (w.alloc (.cells #[.int .i64 0, .bool false] 171)) := (Below.refl _ _).alloc (Nat.le_refl _) _
    obtain ⟨F, cap, rfl, eg, hc⟩ := env_any P r u _ (h2.below hA)
    have c0 := hc k s false
    have l0 : ∀ o, (w.alloc o).cell? ⟨b, 0, none⟩ = some (.func (.func F) #[] cap) := fun o => al_cell (by simp [World.cell?, h1]) o
    have HA := Lib.hid hA
    clear hc h1 h2 hA hb
    cases own
    · have e1 : tkA (none :: r) k s false = tkA r k s false := rfl
      have e2 : tkB (none :: r) k s false = tkB r k s false := rfl
      have e3 : findE (none :: r) k s false = findE r k s false := rfl
      unfold TkEnd at c0 ⊢
      rw [e1, e2, e3]
      obtain ⟨x, hx⟩ : ∃ x, tkA r k s false = x := ⟨_, rfl⟩
      obtain ⟨y, hy⟩ : ∃ y, tkB r k s false = y := ⟨_, rfl⟩
      obtain ⟨z, hz⟩ : ∃ z, (findE r k s false).isSome = z := ⟨_, rfl⟩
      rw [hx, hy, hz] at c0 ⊢
      clear e1 e2 e3 hx hy hz
      simp only [List.append_toArray, List.cons_append, List.nil_append]
      go_enter Tryz.func202, Tryz.ntmps202
      go_wp2_with fail
      go_at_fn F
      refine c0.mono ?_
      clear c0
      rintro e w1 ⟨rfl, hb1⟩
      have HB1 := Lib.hid (tr HA.out hb1)
      have g := (hb1.block w.heap.size (by simp)).trans (heap_alloc_new w _)
      have z0 : w1.cell? ⟨w.heap.size, 0, none⟩ = some (.int .i64 0) := by simp [World.cell?, g]
      have z1 : w1.cell? ⟨w.heap.size, 1, none⟩ = some (.bool false) := by simp [World.cell?, g]
      have zf : ∀ o, w1.frozen? ⟨w.heap.size, o, none⟩ = false := fun o => by simp only [World.frozen?, g]; simp
      clear hb1 g
      go_wp2_with fail
      refine ret_tk rfl rfl rfl rfl (by simp [go_sem, z0]) (by simp [go_sem, z1]) ⟨rfl, ?_⟩
      exact (HB1.out.setCell (p := ⟨w.heap.size, 0, none⟩) (Nat.le_refl _) _).setCell (p := ⟨w.heap.size, 1, none⟩) (Nat.le_refl _) _
    · have hF : Hid (tkA (none :: r) k s true = 0 ∧ tkB (none :: r) k s true = false ∧ (findE (none :: r) k s true).isSome = false) := ⟨rfl, rfl, rfl⟩
      clear c0
      simp only [List.append_toArray, List.cons_append, List.nil_append]
      go_enter Tryz.func202, Tryz.ntmps202
      go_wp2_with fail
      refine ret_tk rfl rfl rfl rfl (by simp [go_sem]; rfl) (by simp [go_sem]; rfl) ⟨by rw [hF.out.1, hF.out.2.1, hF.out.2.2]; rfl, ?_⟩
      exact HA.out
  | some (k', s', a') :: r, v, w, h => by
    obtain ⟨bk, bs, bt, bn, u, rfl, -, h1, h2, h3, h4, h5⟩ := h
    refine ⟨_, _, rfl, enters_of Tryz.func234 (by kernel_rfl) rfl, fun k s own => ?_⟩
    have hA : Below w.heap.size w (w.alloc (.cells #[.int .i64 0, .bool false] 171)) := (Below.refl _ _).alloc (Nat.le_refl _) _
    obtain ⟨F, cap, rfl, eg, hc⟩ := env_any P r u _ (h5.below hA)
    have c0 := hc k s own
    have l1 : ∀ o, (w.alloc o).cell? ⟨bk, 0, none⟩ = some (.int .i64 k') := fun o => al_cell (by simp [World.cell?, h1]) o
    have l2 : ∀ o, (w.alloc o).cell? ⟨bs, 0, none⟩ = some (.string ⟨s'.toArray⟩) := fun o => al_cell (by simp [World.cell?, h2]) o
    have l3 : ∀ o, (w.alloc o).cell? ⟨bt, 0, none⟩ = some (.int .i64 a') := fun o => al_cell (by simp [World.cell?, h3]) o
    have l4 : ∀ o, (w.alloc o).cell? ⟨bt, 1, none⟩ = some (.bool (decide (k' = 2))) := fun o => al_cell (by simp [World.cell?, h3]) o
    have l5 : ∀ o, (w.alloc o).cell? ⟨bn, 0, none⟩ = some (.func (.func F) #[] cap) := fun o => al_cell (by simp [World.cell?, h4]) o
    have HA := Lib.hid hA
    clear hc h1 h2 h3 h4 h5 hA
    by_cases hk : k = k'
    · subst hk
      by_cases hs : s = s'
      · subst hs
        have hF : Hid (tkA (some (k, s, a') :: r) k s own = a' ∧ tkB (some (k, s, a') :: r) k s own = decide (k = 2) ∧ (findE (some (k, s, a') :: r) k s own).isSome = true) := ⟨by simp [tkA, findE], by simp [tkB, findE], by simp [findE]⟩
        obtain ⟨B, hB⟩ : ∃ B, decide (k = 2) = B := ⟨_, rfl⟩
        rw [hB] at l4
        have HBB := Lib.hid hB
        clear c0 hB
        simp only [List.append_toArray, List.cons_append, List.nil_append]
        go_enter Tryz.func234, Tryz.ntmps234
        go_wp2_with fail
        refine ret_tk (v := .bool true) rfl rfl rfl rfl (by simp [go_sem]; rfl) (by simp [go_sem]; rfl) ⟨by rw [hF.out.1, hF.out.2.1, hF.out.2.2, HBB.out], ?_⟩
        exact (Below.refl _ _).alloc (Nat.le_refl _) _
      · have hno : findE (some (k, s', a') :: r) k s own = findE r k s own := by simp [findE, hs]
        have Q1 := str_ne hs
        clear hs
        unfold TkEnd at c0 ⊢
        rw [show tkA (some (k, s', a') :: r) k s own = tkA r k s own by unfold tkA; rw [hno], show tkB (some (k, s', a') :: r) k s own = tkB r k s own by unfold tkB; rw [hno], hno]
        obtain ⟨x, hx⟩ : ∃ x, tkA r k s own = x := ⟨_, rfl⟩
        obtain ⟨y, hy⟩ : ∃ y, tkB r k s own = y := ⟨_, rfl⟩
        obtain ⟨z, hz⟩ : ∃ z, (findE r k s own).isSome = z := ⟨_, rfl⟩
        rw [hx, hy, hz] at c0 ⊢
        clear hx hy hz hno
        simp only [List.append_toArray, List.cons_append, List.nil_append]
        go_enter Tryz.func234, Tryz.ntmps234
        go_wp2_with fail
        go_at_fn F
        refine c0.mono ?_
        clear c0
        rintro e w1 ⟨rfl, hb1⟩
        have HB1 := Lib.hid (tr HA.out hb1)
        have g := (hb1.block w.heap.size (by simp)).trans (heap_alloc_new w _)
        have z0 : w1.cell? ⟨w.heap.size, 0, none⟩ = some (.int .i64 0) := by simp [World.cell?, g]
        have z1 : w1.cell? ⟨w.heap.size, 1, none⟩ = some (.bool false) := by simp [World.cell?, g]
        have zf : ∀ o, w1.frozen? ⟨w.heap.size, o, none⟩ = false := fun o => by simp only [World.frozen?, g]; simp
        clear hb1 g
        go_wp2_with fail
        refine ret_tk rfl rfl rfl rfl (by simp [go_sem, z0]) (by simp [go_sem, z1]) ⟨rfl, ?_⟩
        exact (HB1.out.setCell (p := ⟨w.heap.size, 0, none⟩) (Nat.le_refl _) _).setCell (p := ⟨w.heap.size, 1, none⟩) (Nat.le_refl _) _
    · have hno : findE (some (k', s', a') :: r) k s own = findE r k s own := by simp [findE, hk]
      have Q1 : ((k : Int) == (k' : Int)) = false := beq_eq_false_iff_ne.2 (by omega)
      clear hk
      unfold TkEnd at c0 ⊢
      rw [show tkA (some (k', s', a') :: r) k s own = tkA r k s own by unfold tkA; rw [hno], show tkB (some (k', s', a') :: r) k s own = tkB r k s own by unfold tkB; rw [hno], hno]
      obtain ⟨x, hx⟩ : ∃ x, tkA r k s own = x := ⟨_, rfl⟩
      obtain ⟨y, hy⟩ : ∃ y, tkB r k s own = y := ⟨_, rfl⟩
      obtain ⟨z, hz⟩ : ∃ z, (findE r k s own).isSome = z := ⟨_, rfl⟩
      rw [hx, hy, hz] at c0 ⊢
      clear hx hy hz hno
      simp only [List.append_toArray, List.cons_append, List.nil_append]
      go_enter Tryz.func234, Tryz.ntmps234
      go_wp2_with fail
      go_at_fn F
      refine c0.mono ?_
      clear c0
      rintro e w1 ⟨rfl, hb1⟩
      have HB1 := Lib.hid (tr HA.out hb1)
      have g := (hb1.block w.heap.size (by simp)).trans (heap_alloc_new w _)
      have z0 : w1.cell? ⟨w.heap.size, 0, none⟩ = some (.int .i64 0) := by simp [World.cell?, g]
      have z1 : w1.cell? ⟨w.heap.size, 1, none⟩ = some (.bool false) := by simp [World.cell?, g]
      have zf : ∀ o, w1.frozen? ⟨w.heap.size, o, none⟩ = false := fun o => by simp only [World.frozen?, g]; simp
      clear hb1 g
      go_wp2_with fail
      refine ret_tk rfl rfl rfl rfl (by simp [go_sem, z0]) (by simp [go_sem, z1]) ⟨rfl, ?_⟩
      exact (HB1.out.setCell (p := ⟨w.heap.size, 0, none⟩) (Nat.le_refl _) _).setCell (p := ⟨w.heap.size, 1, none⟩) (Nat.le_refl _) _
theorem heap4 (w : World) (a b c d : Obj) : (((((w.alloc a).alloc b).alloc c).alloc d).heap[w.heap.size]? = some a) ∧ (((((w.alloc a).alloc b).alloc c).alloc d).heap[w.heap.size + 1]? = some b) ∧ (((((w.alloc a).alloc b).alloc c).alloc d).heap[w.heap.size + 2]? = some c) ∧ (((((w.alloc a).alloc b).alloc c).alloc d).heap[w.heap.size + 3]? = some d) := by
  have s1 := World.size_alloc w a
  have s2 := World.size_alloc (w.alloc a) b
  have s3 := World.size_alloc ((w.alloc a).alloc b) c
  refine ⟨?_, ?_, ?_, ?_⟩
  · rw [Below.heap_alloc _ _ _ (by omega), Below.heap_alloc _ _ _ (by omega), Below.heap_alloc _ _ _ (by omega)]
    exact heap_alloc_new w a
  · rw [Below.heap_alloc _ _ _ (by omega), Below.heap_alloc _ _ _ (by omega)]
    have := heap_alloc_new (w.alloc a) b
    rwa [s1] at this
  · rw [Below.heap_alloc _ _ _ (by omega)]
    have := heap_alloc_new ((w.alloc a).alloc b) c
    rwa [s2, s1] at this
  · have := heap_alloc_new (((w.alloc a).alloc b).alloc c) d
    rwa [s3, s2, s1] at this
theorem with_any (P : Nat → Prop) (ρ : Env) (v : Value) (k : Nat) (s : List UInt8) (a : Nat) (B : Bool) (hB : B = decide (k = 2)) (w : World) (h : EnvAt w P ρ v) (hP : ∀ b, P b → b < w.heap.size) :
    Calls Tryz.prog 205 #[v, .int .i64 k, .string ⟨s.toArray⟩, .agg #[.int .i64 a, .bool B]] w fun e w' => ∃ v', e = .returned v' ∧ EnvAt w' P (some (k, s, a) :: ρ) v' ∧ Below w.heap.size w w' := by
  have hmf : ∀ (fn : Fn) (first cap : Array Value) (w : World), (Instr.makeFunc fn first cap).run Tryz.prog w = .ok (.func fn first cap) w := fun _ _ _ _ => rfl
  obtain ⟨F, cap, rfl, -, -⟩ := env_any P ρ v w h
  have HH := Lib.hid h
  have HP := Lib.hid hP
  have HB := Lib.hid hB
  clear h hP hB
  go_enter Tryz.func205, Tryz.ntmps205
  go_wp2_with fail
  go_ret
  have hb : Below w.heap.size w ((((w.alloc (.cells #[.func (.func F) #[] cap] 210)).alloc (.cells #[.int .i64 k] 3)).alloc (.cells #[.string ⟨s.toArray⟩] 9)).alloc (.cells #[.int .i64 a, .bool B] 171)) :=
    ((((Below.refl _ _).alloc (Nat.le_refl _) _).alloc (by simp) _).alloc (by simp; omega) _).alloc (by simp; omega) _
  have g4 := heap4 w (.cells #[.func (.func F) #[] cap] 210) (.cells #[.int .i64 k] 3) (.cells #[.string ⟨s.toArray⟩] 9) (.cells #[.int .i64 a, .bool B] 171)
  have nP : ∀ m, ¬ P (w.heap.size + m) := fun m hm => by have := HP.out _ hm; omega
  refine ⟨_, rfl, ⟨w.heap.size + 1, w.heap.size + 2, w.heap.size + 3, w.heap.size, _, rfl, ⟨nP 1, nP 2, nP 3, nP 0⟩, g4.2.1, g4.2.2.1, by rw [← HB.out]; exact g4.2.2.2, g4.1, HH.out.below hb⟩, hb⟩
theorem within_any (P : Nat → Prop) (ρ : Env) (v : Value) (w : World) (h : EnvAt w P ρ v) (hP : ∀ b, P b → b < w.heap.size) :
    Calls Tryz.prog 175 #[v] w fun e w' => ∃ v', e = .returned v' ∧ EnvAt w' P (none :: ρ) v' ∧ Below w.heap.size w w' := by
  have hmf : ∀ (fn : Fn) (first cap : Array Value) (w : World), (Instr.makeFunc fn first cap).run Tryz.prog w = .ok (.func fn first cap) w := fun _ _ _ _ => rfl
  obtain ⟨F, cap, rfl, -, -⟩ := env_any P ρ v w h
  have HH := Lib.hid h
  have HP := Lib.hid hP
  clear h hP
  go_enter Tryz.func175, Tryz.ntmps175
  go_wp2_with fail
  go_ret
  have hb : Below w.heap.size w (w.alloc (.cells #[.func (.func F) #[] cap] 210)) := (Below.refl _ _).alloc (Nat.le_refl _) _
  exact ⟨_, rfl, ⟨w.heap.size, _, rfl, fun hm => by have := HP.out _ hm; omega, heap_alloc_new w _, HH.out.below hb⟩, hb⟩
end Go.Proofs.YtpbkeamjdolpgaaGreatDoor
namespace Go.Proofs.YtpbkeamjdolpgaaGreatDoor
open Go.RowKit Go.Lib
open Go.Maps (Keyed)

theorem wpList_insert_own {H : Type} {P : Program} (w : World) {ops : Array Oper} {rest : List Oper} {o : Oper} {a : Act} {Q : Exit → Act → World → Prop}
    (hg : o.guard = none) (m x v : Operand) (t : TypeId) (hop : o.op = Op.insert t m x v)
    (k e : TypeId) (K : Keyed P k) (ht : P.underlying t = some (.map k e)) (R : Value → Option (DataW H × List MemPlace)) (b n : Nat) (D : DataW H)
    (hm : a.eval m = .map (some b)) (hown : w.ownsMap P k R b n D) (hn : n < maxLen) (key val : Value) (kl : Lit) (hx : a.eval x = key) (hv : a.eval v = val) (hkey : keyOf P k key = some kl)
    (d : DataW H) (ps : List MemPlace) (hval : R val = some (d, ps))
    (hK : ∀ w', w'.ownsMap P k R b (n + 1) (D.put kl d) → w.grownBy w' (some b) → wpList P ops Q rest (a.put o.dst undef) w') :
    wpList P ops Q (o :: rest) a w := by
  refine wpList_plain hg fun K' hK' => ?_
  obtain ⟨w', hrun, r1, r2⟩ := hown.update K ht hn hkey hval
  unfold Oper.wp
  simp [execOp, hop, hm, hx, hv, hrun, Result.andThen]
  exact hK' _ _ (hK w' r1 r2)

def tkElem (v : Value) : Option (DataW Unit × List MemPlace) := match v with
  | .agg xs => match xs.toList with
    | [.int .i64 a, .bool b] => some (.agg [.lit (.int .i64 a), .lit (.bool b)], [])
    | _ => none
  | _ => none
theorem tkElem_mk (a : Int) (b : Bool) : tkElem (.agg #[.int .i64 a, .bool b]) = some (.agg [.lit (.int .i64 a), .lit (.bool b)], []) := rfl
theorem tkElem_inv {v : Value} {z : DataW Unit × List MemPlace} (h : tkElem v = some z) : ∃ a b, v = .agg #[.int .i64 a, .bool b] ∧ z = (.agg [.lit (.int .i64 a), .lit (.bool b)], []) := by
  unfold tkElem at h
  split at h
  · rename_i xs
    split at h
    · rename_i a b hx
      simp at h
      refine ⟨a, b, ?_, h.symm⟩
      congr 1
      obtain ⟨l⟩ := xs
      simp at hx
      subst hx
      rfl
    · cases h
  · cases h
def TkD (D : DataW Unit) (f : List UInt8 → Option (Nat × Bool)) : Prop := Maps.IsMap D ∧ ∀ s, Maps.has D (.string s) = (f s).isSome ∧ ∀ a b, f s = some (a, b) → ∀ z, D.atKey (.string s) z = .agg [.lit (.int .i64 a), .lit (.bool b)]
theorem TkD.nil : TkD (.map []) (fun _ => none) := ⟨⟨[], rfl⟩, fun s => ⟨rfl, fun a b h => by cases h⟩⟩
theorem TkD.put {D : DataW Unit} {f : List UInt8 → Option (Nat × Bool)} (h : TkD D f) (k : List UInt8) (a : Nat) (b : Bool) : TkD (D.put (.string k) (.agg [.lit (.int .i64 a), .lit (.bool b)])) (fun s => if s = k then some (a, b) else f s) := by
  have hk : WideAt.IsKeyLit (.string k) := by simp [WideAt.IsKeyLit]
  obtain ⟨es, rfl⟩ := h.1
  refine ⟨⟨_, rfl⟩, fun s => ?_⟩
  by_cases hs : s = k
  · subst hs
    refine ⟨by simpa using Maps.has_put_same (D := .map es) ⟨es, rfl⟩ hk _, fun a' b' e z => ?_⟩
    simp at e
    obtain ⟨rfl, rfl⟩ := e
    exact Maps.atKey_put_same ⟨es, rfl⟩ hk _ z
  · have hne : (Lit.string s) ≠ .string k := fun e => hs (by cases e; rfl)
    obtain ⟨h1, h2⟩ := h.2 s
    refine ⟨?_, fun a' b' e z => ?_⟩
    · rw [Maps.has_put_other hne, h1]
      simp [hs]
    · simp [hs] at e
      rw [Maps.atKey_put_other hne]
      exact h2 a' b' e z
def TkMap (w : World) (b : Nat) (f : List UInt8 → Option (Nat × Bool)) : Prop := ∃ n D, n ≤ 64 ∧ w.ownsMap Tryz.prog 9 tkElem b n D ∧ TkD D f
def CntD (D : DataW Unit) (l : List (List UInt8)) : Prop := Maps.IsMap D ∧ ∀ s, Maps.has D (.string s) = decide (s ∈ l)
theorem CntD.nil : CntD (.map []) [] := ⟨⟨[], rfl⟩, fun _ => rfl⟩
theorem CntD.put {D : DataW Unit} {l : List (List UInt8)} (h : CntD D l) (k : List UInt8) (d : DataW Unit) : CntD (D.put (.string k) d) (l ++ [k]) := by
  have hk : WideAt.IsKeyLit (.string k) := by simp [WideAt.IsKeyLit]
  obtain ⟨es, rfl⟩ := h.1
  refine ⟨⟨_, rfl⟩, fun s => ?_⟩
  by_cases hs : s = k
  · subst hs
    rw [Maps.has_put_same ⟨es, rfl⟩ hk]
    simp
  · have hne : (Lit.string s) ≠ .string k := fun e => hs (by cases e; rfl)
    rw [Maps.has_put_other hne, h.2 s]
    simp [hs]
def CntMap (w : World) (b : Nat) (l : List (List UInt8)) : Prop := ∃ D, w.ownsMap Tryz.prog 9 (plainElem Tryz.prog 3) b l.length D ∧ CntD D l
theorem TkMap.keep {w w' : World} {b : Nat} {f : List UInt8 → Option (Nat × Bool)} (h : TkMap w b f) (hk : w'.heap[b]? = w.heap[b]?) : TkMap w' b f := by
  obtain ⟨n, D, h1, ⟨es, clock, hb, F, hs, hD⟩, h3⟩ := h
  exact ⟨n, D, h1, ⟨es, clock, hk.trans hb, F, hs, hD⟩, h3⟩
theorem CntMap.keep {w w' : World} {b : Nat} {l : List (List UInt8)} (h : CntMap w b l) (hk : w'.heap[b]? = w.heap[b]?) : CntMap w' b l := by
  obtain ⟨D, ⟨es, clock, hb, F, hs, hD⟩, h3⟩ := h
  exact ⟨D, ⟨es, clock, hk.trans hb, F, hs, hD⟩, h3⟩
theorem TkMap.lt {w : World} {b : Nat} {f : List UInt8 → Option (Nat × Bool)} (h : TkMap w b f) : b < w.heap.size := by
  obtain ⟨n, D, h1, h2, h3⟩ := h
  exact h2.lt
theorem CntMap.lt {w : World} {b : Nat} {l : List (List UInt8)} (h : CntMap w b l) : b < w.heap.size := by
  obtain ⟨D, h2, h3⟩ := h
  exact h2.lt
theorem Tryz.kStr : Keyed Tryz.prog 9 := Maps.string_keyed Tryz.underlying9
theorem key_str (s : List UInt8) (h : s.length ≤ maxLen) : keyOf Tryz.prog 9 (.string ⟨s.toArray⟩) = some (.string s) := by
  have := Go.WideMaps.keyOf_string_mk (P := Tryz.prog) (k := 9) Tryz.underlying9 (s := ⟨s.toArray⟩) (by show s.toArray.size ≤ _; simpa using h)
  simpa using this
theorem Tryz.zeroTakes (w : World) : (zeroValue 171).run Tryz.prog w = .ok (.agg #[.int .i64 0, .bool false]) w := by kernel_rfl
theorem Tryz.zeroIntM (w : World) : (zeroValue 3).run Tryz.prog w = .ok (.int .i64 0) w := by kernel_rfl
end Go.Proofs.YtpbkeamjdolpgaaGreatDoor
namespace Go.Proofs.YtpbkeamjdolpgaaGreatDoor
open Go.RowKit Go.Lib Go.Sort
open Go.Maps (Keyed)

theorem Tryz.infoStr : (Tryz.prog.info? 9).map (fun i => (i.zero, i.size, i.bytes)) = some (some (.string ⟨#[]⟩), 1, 16) := by kernel_rfl
theorem size_own {k : TypeId} {R : Value → Option (DataW Unit × List MemPlace)} {w : World} {b n : Nat} {D : DataW Unit} (h : w.ownsMap Tryz.prog k R b n D) : Maps.size D ≤ n := by
  obtain ⟨es, clock, hb, F, hs, rfl⟩ := h
  simpa [Maps.size, length_sorted] using hs
set_option maxHeartbeats 4000000 in
set_option maxRecDepth 100000 in
theorem rising_any (b : Nat) (l : List (List UInt8)) (hl : l.length < 2 ^ 40) (w : World) (h : CntMap w b l) :
    Calls Tryz.prog 76 #[.map (some b)] w fun e w' => ∃ v, e = .returned v ∧ w'.ownsRow w.heap.size 9 1 v (risL l).length ((risL l).map encStr) ∧ Below w.heap.size w w' := by
  obtain ⟨D, hown, hD⟩ := h
  obtain ⟨i0, hi, hz0, hz1, hz2⟩ := info_parts Tryz.infoStr
  have hsz := size_own hown
  have hbl := hown.lt
  have hnx0 : Below w.heap.size w w := Below.refl _ _
  go_enter Tryz.func76, Tryz.ntmps76
  go_wp2_with (first
    | (at_range; refine wpList_range_own _ rfl _ 119 rfl 9 3 Tryz.kStr Tryz.underlying119 _ b _ D rfl hown ?_; intro w0 hrg0 hg0 hs0))
  go_frame
  go_loopw [3] (fun v wr => ∃ (left : Lit → Bool) (cnt : Nat) (ss : List (List UInt8)), wr.ranges Tryz.prog 9 (plainElem Tryz.prog 3) b w.heap.size l.length D left cnt ∧ ss.length + cnt ≤ l.length ∧
      wr.ownsRow w.heap.size 9 1 v ss.length (ss.map encStr) ∧ Collected D left ss ∧ Below w.heap.size w wr)
    (fun _ wr => wr.rangeLeft b w.heap.size)
  case atStart =>
    exact ⟨_, _, [], hrg0, by simpa using hsz, World.ownsRow_nil _ _ _ _, Collected.start D, hnx0.grown hg0 (Nat.le_refl _) (fun j hj => by cases hj)⟩
  case round =>
    obtain ⟨left, cnt, ss, hrg, hcs, hrow, hC, hnx⟩ := hrel
    go_wp2_with (first
      | (at_next; refine wpList_next_ranges _ rfl _ rfl 9 Tryz.kStr (plainElem Tryz.prog 3) encStr (Value.int .i64) (fun key kl hk => by obtain ⟨x, hx, _⟩ := Maps.keyOf_str Tryz.underlying9 hk; exact ⟨x, hx⟩) (fun v y hv => by obtain ⟨c, rfl, _⟩ := plainElem_int_inv Tryz.underlying3 hv; exact ⟨c, rfl⟩) b w.heap.size l.length _ _ _ rfl hrg ?_ ?_))
    · intro hc0 hl0
      have hmem : ∀ x, x ∈ ss ↔ x ∈ l := fun x => by
        rw [hC.2 x, hD.2 x, hl0]
        simp
      have hsort := sort_ris hC.1 hmem
      rcases hrow.2 with ⟨rfl, hnil⟩ | ⟨g, cap, cur, rfl, hbase, hb, h1, h2, h3, h4⟩
      · have he : ss = [] := List.length_eq_zero_iff.1 hnil
        subst he
        have HR : Hid (risL l = []) := Lib.hid (by rw [← hsort]; simp)
        have hc := Any.slices_Sort_string_none Tryz.lays190 none 0 wr
        have HB := Lib.hid hnx
        clear hrow hnx hrg hC hD hmem hsort
        go_wp2_with (go_at_call 136; refine hc.mono ?_; rintro e w' ⟨rfl, rfl⟩)
        go_ret
        rw [HR.out]
        exact ⟨_, rfl, World.ownsRow_nil _ _ _ _, HB.out⟩
      · have hH : Holds encStr wr g 0 ss.toArray := holds_of_block hb (by simpa using h4)
        have hgl : g < wr.heap.size := (Array.getElem?_eq_some_iff.1 hb).1
        have hc := Tryz.slices_Sort_string g 0 cap ss wr hH hgl (by omega)
        have HB := Lib.hid hnx
        have HG := Lib.hid (⟨hbase, hb, h1, h2, h3⟩ : _ ∧ _ ∧ _ ∧ _ ∧ _)
        have HS := Lib.hid hsort
        clear hrow hnx hrg hC hD hmem hsort hbase hb h1 h2 h3 h4 hH hgl
        go_wp2_with (go_at_call 136; refine hc.mono ?_; rintro e w' ⟨rfl, nn, os, rfl⟩)
        go_ret
        obtain ⟨hbase, hb, h1, h2, h3⟩ := HG.out
        have hr := ownsRow_sorted (n := nn) (os := os) (ts := ss.mergeSort fun x y => decide (x ≤ y)) (by simp) hbase hb h1 h2 h3
        have hlen : ss.length = (risL l).length := by rw [← HS.out]; simp
        rw [HS.out, hlen] at hr
        rw [HS.out, hlen]
        exact ⟨_, rfl, hr, HB.out.grown (grownBy_sorted _) HB.out.size (fun j hj => by cases hj; exact hbase)⟩
    · intro x c kl yd yp w2 cnt2 hkey hlk hv hat hrg2 hlt hg2 hs2 hen
      obtain ⟨x', ex, rfl, _⟩ := Maps.keyOf_str Tryz.underlying9 hkey
      obtain rfl : x = x' := encStr_inj ex
      have hrow2 := hrow.kept hg2 (Or.inr (row_ne_iter hrow hrg).symm)
      clear hs2
      go_wp2_with (at_builtin; refine wpList_append_own _ rfl _ _ 44 rfl w.heap.size 9 i0 (.string ⟨#[]⟩) 1 16 Tryz.underlying44 hi hz0 hz1 hz2 rfl (by decide) _ _ _ rfl (hrow2.alloc _) ⟨w2.heap.size, 0, none⟩ 1 1 [encStr x] rfl rfl (cell_one_new _ _ _) (by simp [Value.oneCell', encStr]) (by unfold maxLen at *; omega) (by omega) (by have := hnx.size; have := hg2.size; simp; omega) ?_; intro v' w3 hown' hg3 hnil3)
      have hrg3 := (hrg2.alloc _).kept hg3 (row_ne_low hrow2 hbl) (row_ne_iter hrow2 hrg2)
      go_roundw
      case rel =>
        refine ⟨_, cnt2, ss ++ [x], hrg3, by simp; omega, by simpa using hown', hC.step hlk hat, ?_⟩
        exact ((hnx.grown hg2 hnx.size (fun j hj => by cases hj; exact Nat.le_refl _)).alloc (by have := hnx.size; have := hg2.size; omega) _).grown hg3 (by have := hnx.size; have := hg2.size; simp; omega) (fun j hj => (hrow2.lt j hj).1)
      case measure => rw [hrg3.left_eq, hrg.left_eq]; exact hlt
end Go.Proofs.YtpbkeamjdolpgaaGreatDoor
namespace Go.Proofs.YtpbkeamjdolpgaaGreatDoor
open Go.RowKit Go.Lib
open Go.Maps (Keyed)

theorem Below.grownN {B b : Nat} {a w w1 : World} (h : Below B a w ∧ B ≤ b ∧ B ≤ w.heap.size) (hg : w.grownBy w1 (some b)) : Below B a w1 ∧ B ≤ b ∧ B ≤ w1.heap.size :=
  ⟨⟨hg.os.trans h.1.os, hg.tape.trans h.1.tape, hg.output.trans h.1.output, Nat.le_trans h.1.size hg.size, fun k hk => (hg.block k (by have := h.2.2; omega) (fun e => by have h2 := h.2.1; cases e; omega)).trans (h.1.block k hk)⟩, h.2.1, Nat.le_trans h.2.2 hg.size⟩
theorem fn_fun : (fun s : List UInt8 => if s = [114, 97, 110, 103, 101] then some (2, false) else if s = [109, 97, 120] then some (1, false) else if s = [109, 105, 110] then some (1, false) else if s = [102, 108, 111, 111, 114] then some (1, false) else if s = [97, 98, 115] then some (1, false) else if s = [108, 101, 110] then some (1, false) else none) = fun s => (fnB s).map (·, false) := by
  funext s
  unfold fnB fn1 fn2
  by_cases h0 : s = [108, 101, 110]
  · subst h0; rfl
  by_cases h1 : s = [97, 98, 115]
  · subst h1; rfl
  by_cases h2 : s = [102, 108, 111, 111, 114]
  · subst h2; rfl
  by_cases h3 : s = [109, 105, 110]
  · subst h3; rfl
  by_cases h4 : s = [109, 97, 120]
  · subst h4; rfl
  by_cases h5 : s = [114, 97, 110, 103, 101]
  · subst h5; rfl
  simp [h0, h1, h2, h3, h4, h5]
set_option maxHeartbeats 4000000 in
set_option maxRecDepth 100000 in
theorem functions_any (w : World) : Calls Tryz.prog 132 #[] w fun e w' => ∃ b, e = .returned (.map (some b)) ∧ w.heap.size ≤ b ∧ TkMap w' b (fun s => (fnB s).map (·, false)) ∧ Below w.heap.size w w' := by
  have hmm := @run_makeMap Tryz.prog
  have hown := World.ownsMap_made (H := Unit) w Tryz.prog 9 tkElem
  have hbel : Below w.heap.size w (w.alloc (.map #[] 0)) ∧ w.heap.size ≤ w.heap.size ∧ w.heap.size ≤ (w.alloc (.map #[] 0)).heap.size := ⟨(Below.refl _ _).alloc (Nat.le_refl _) _, Nat.le_refl _, by simp⟩
  go_enter Tryz.func132, Tryz.ntmps132
  go_wp2_with (refine wpList_insert_own _ rfl _ _ _ 117 rfl 9 171 Tryz.kStr Tryz.underlying117 tkElem _ _ _ rfl hown (by unfold maxLen; omega) _ _ _ rfl rfl (key_str _ (by decide)) _ [] (tkElem_mk _ _) ?_; intro w1 hown hgrow; have hbel := Below.grownN hbel hgrow)
  go_ret
  exact ⟨_, rfl, Nat.le_refl _, ⟨_, _, by omega, hown, fn_fun ▸ ((((((TkD.nil.put [108, 101, 110] 1 false).put [97, 98, 115] 1 false).put [102, 108, 111, 111, 114] 1 false).put [109, 105, 110] 1 false).put [109, 97, 120] 1 false).put [114, 97, 110, 103, 101] 2 false)⟩, hbel.1⟩
def md7 (s : List UInt8) : Option (Nat × Bool) := if s = [100, 105, 97, 109, 111, 110, 100] then some (2, false) else if s = [100, 111, 116, 115] then some (1, false) else if s = [98, 111, 120] then some (2, false) else if s = [104, 97, 108, 102] then some (2, false) else if s = [99, 104, 105, 108, 100, 114, 101, 110] then some (0, false) else if s = [102, 117, 108, 108] then some (0, false) else if s = [101, 109, 112, 116, 121] then some (0, false) else none
theorem md_fun : (fun s : List UInt8 => if s ∈ mb1 then some (1, true) else if s ∈ mb0 then some (0, true) else md7 s) = mdB := by
  funext s
  unfold mdB md0 md1 md2 mb0 mb1 md7
  by_cases h0 : s = [101, 109, 112, 116, 121]
  · subst h0; rfl
  by_cases h1 : s = [102, 117, 108, 108]
  · subst h1; rfl
  by_cases h2 : s = [99, 104, 105, 108, 100, 114, 101, 110]
  · subst h2; rfl
  by_cases h3 : s = [104, 97, 108, 102]
  · subst h3; rfl
  by_cases h4 : s = [98, 111, 120]
  · subst h4; rfl
  by_cases h5 : s = [100, 111, 116, 115]
  · subst h5; rfl
  by_cases h6 : s = [100, 105, 97, 109, 111, 110, 100]
  · subst h6; rfl
  by_cases h7 : s = [117, 110, 105, 111, 110]
  · subst h7; rfl
  by_cases h8 : s = [105, 110, 116, 101, 114, 115, 101, 99, 116, 105, 111, 110]
  · subst h8; rfl
  by_cases h9 : s = [100, 105, 102, 102, 101, 114, 101, 110, 99, 101]
  · subst h9; rfl
  by_cases h10 : s = [120, 111, 114]
  · subst h10; rfl
  by_cases h11 : s = [104, 117, 108, 108]
  · subst h11; rfl
  by_cases h12 : s = [109, 105, 110, 107, 111, 119, 115, 107, 105]
  · subst h12; rfl
  by_cases h13 : s = [99, 111, 109, 112, 108, 101, 109, 101, 110, 116]
  · subst h13; rfl
  by_cases h14 : s = [105, 110, 116, 101, 114, 105, 111, 114]
  · subst h14; rfl
  by_cases h15 : s = [99, 108, 111, 115, 117, 114, 101]
  · subst h15; rfl
  by_cases h16 : s = [98, 111, 117, 110, 100, 97, 114, 121]
  · subst h16; rfl
  by_cases h17 : s = [114, 101, 103, 117, 108, 97, 114]
  · subst h17; rfl
  by_cases h18 : s = [109, 111, 118, 101]
  · subst h18; rfl
  by_cases h19 : s = [115, 116, 114, 101, 116, 99, 104]
  · subst h19; rfl
  by_cases h20 : s = [109, 105, 114, 114, 111, 114]
  · subst h20; rfl
  by_cases h21 : s = [116, 117, 114, 110]
  · subst h21; rfl
  by_cases h22 : s = [109, 97, 112]
  · subst h22; rfl
  simp [h0, h1, h2, h3, h4, h5, h6, h7, h8, h9, h10, h11, h12, h13, h14, h15, h16, h17, h18, h19, h20, h21, h22]
theorem TkD.fun_ {D : DataW Unit} {f g : List UInt8 → Option (Nat × Bool)} (h : TkD D f) (e : f = g) : TkD D g := e ▸ h
theorem take_fun (l : List (List UInt8)) (i : Nat) (x : List UInt8) (hx : l[i]? = some x) (v : Nat × Bool) (f : List UInt8 → Option (Nat × Bool)) :
    (fun s => if s = x then some (v.1, v.2) else if s ∈ l.take i then some v else f s) = fun s => if s ∈ l.take (i + 1) then some v else f s := by
  funext s
  rw [List.take_add_one, hx]
  by_cases h1 : s = x
  · subst h1
    simp
  · by_cases h2 : s ∈ l.take i
    · simp [h1, h2]
    · simp [h1, h2]
def SRow (w : World) (g : Nat) (l : List (List UInt8)) : Prop := w.heap[g]? = some (.cells (l.map fun s => Value.string ⟨s.toArray⟩).toArray 9 (0, 0))
theorem SRow.at_ {w : World} {g : Nat} {l : List (List UInt8)} (h : SRow w g l) {i : Nat} {x : List UInt8} (hx : l[i]? = some x) : w.cell? ⟨g, i, none⟩ = some (.string ⟨x.toArray⟩) := by
  unfold SRow at h
  simp [World.cell?, h, hx]
theorem mb_len : ∀ x ∈ mb0 ++ mb1, x.length ≤ maxLen := by
  intro x hx
  have : (mb0 ++ mb1).all (fun x => decide (x.length ≤ 20)) = true := by decide
  have := List.all_eq_true.1 this x hx
  simp at this
  unfold maxLen
  omega
set_option maxHeartbeats 4000000 in
set_option maxRecDepth 100000 in
theorem modules_any (w : World) : Calls Tryz.prog 133 #[] w fun e w' => ∃ b, e = .returned (.map (some b)) ∧ w.heap.size ≤ b ∧ TkMap w' b mdB ∧ Below w.heap.size w w' := by
  have hmm := @run_makeMap Tryz.prog
  have hown := World.ownsMap_made (H := Unit) w Tryz.prog 9 tkElem
  have hbel : Below w.heap.size w (w.alloc (.map #[] 0)) ∧ w.heap.size ≤ w.heap.size ∧ w.heap.size ≤ (w.alloc (.map #[] 0)).heap.size := ⟨(Below.refl _ _).alloc (Nat.le_refl _) _, Nat.le_refl _, by simp⟩
  go_enter Tryz.func133, Tryz.ntmps133
  go_upto_region 2 with (refine wpList_insert_own _ rfl _ _ _ 117 rfl 9 171 Tryz.kStr Tryz.underlying117 tkElem _ _ _ rfl hown (by unfold maxLen; omega) _ _ _ rfl rfl (key_str _ (by decide)) _ [] (tkElem_mk _ _) ?_; intro w1 hown hgrow; have hbel := Below.grownN hbel hgrow)
  have TKD : TkD _ md7 := (((((((TkD.nil.put [101, 109, 112, 116, 121] 0 false).put [102, 117, 108, 108] 0 false).put [99, 104, 105, 108, 100, 114, 101, 110] 0 false).put [104, 97, 108, 102] 2 false).put [98, 111, 120] 2 false).put [100, 111, 116, 115] 1 false).put [100, 105, 97, 109, 111, 110, 100] 2 false)
  have H0 : Hid (∃ m D, m ≤ 7 ∧ w1.ownsMap Tryz.prog 9 tkElem w.heap.size m D ∧ TkD D (fun s => if s ∈ mb0.take 0 then some (0, true) else md7 s)) := Lib.hid ⟨_, _, by omega, hown, TKD.fun_ (by funext s; simp)⟩
  have HB0 := Lib.hid hbel
  have hlt0 : w.heap.size < w1.heap.size := hown.lt
  clear hown TKD hbel hgrow

  go_wp2_with fail
  have HS : Hid (SRow (w1.alloc (.cells #[.string ⟨#[117, 110, 105, 111, 110]⟩, .string ⟨#[105, 110, 116, 101, 114, 115, 101, 99, 116, 105, 111, 110]⟩, .string ⟨#[100, 105, 102, 102, 101, 114, 101, 110, 99, 101]⟩, .string ⟨#[120, 111, 114]⟩, .string ⟨#[104, 117, 108, 108]⟩, .string ⟨#[109, 105, 110, 107, 111, 119, 115, 107, 105]⟩, .string ⟨#[99, 111, 109, 112, 108, 101, 109, 101, 110, 116]⟩, .string ⟨#[105, 110, 116, 101, 114, 105, 111, 114]⟩, .string ⟨#[99, 108, 111, 115, 117, 114, 101]⟩, .string ⟨#[98, 111, 117, 110, 100, 97, 114, 121]⟩, .string ⟨#[114, 101, 103, 117, 108, 97, 114]⟩] 9)) w1.heap.size mb0) := heap_alloc_new w1 _
  have HT : Hid ((∃ m D, m ≤ 7 + 0 ∧ (w1.alloc (.cells #[.string ⟨#[117, 110, 105, 111, 110]⟩, .string ⟨#[105, 110, 116, 101, 114, 115, 101, 99, 116, 105, 111, 110]⟩, .string ⟨#[100, 105, 102, 102, 101, 114, 101, 110, 99, 101]⟩, .string ⟨#[120, 111, 114]⟩, .string ⟨#[104, 117, 108, 108]⟩, .string ⟨#[109, 105, 110, 107, 111, 119, 115, 107, 105]⟩, .string ⟨#[99, 111, 109, 112, 108, 101, 109, 101, 110, 116]⟩, .string ⟨#[105, 110, 116, 101, 114, 105, 111, 114]⟩, .string ⟨#[99, 108, 111, 115, 117, 114, 101]⟩, .string ⟨#[98, 111, 117, 110, 100, 97, 114, 121]⟩, .string ⟨#[114, 101, 103, 117, 108, 97, 114]⟩] 9)).ownsMap Tryz.prog 9 tkElem w.heap.size m D ∧ TkD D (fun s => if s ∈ mb0.take 0 then some (0, true) else (md7) s)) ∧ SRow (w1.alloc (.cells #[.string ⟨#[117, 110, 105, 111, 110]⟩, .string ⟨#[105, 110, 116, 101, 114, 115, 101, 99, 116, 105, 111, 110]⟩, .string ⟨#[100, 105, 102, 102, 101, 114, 101, 110, 99, 101]⟩, .string ⟨#[120, 111, 114]⟩, .string ⟨#[104, 117, 108, 108]⟩, .string ⟨#[109, 105, 110, 107, 111, 119, 115, 107, 105]⟩, .string ⟨#[99, 111, 109, 112, 108, 101, 109, 101, 110, 116]⟩, .string ⟨#[105, 110, 116, 101, 114, 105, 111, 114]⟩, .string ⟨#[99, 108, 111, 115, 117, 114, 101]⟩, .string ⟨#[98, 111, 117, 110, 100, 97, 114, 121]⟩, .string ⟨#[114, 101, 103, 117, 108, 97, 114]⟩] 9)) w1.heap.size mb0 ∧ Below w.heap.size w (w1.alloc (.cells #[.string ⟨#[117, 110, 105, 111, 110]⟩, .string ⟨#[105, 110, 116, 101, 114, 115, 101, 99, 116, 105, 111, 110]⟩, .string ⟨#[100, 105, 102, 102, 101, 114, 101, 110, 99, 101]⟩, .string ⟨#[120, 111, 114]⟩, .string ⟨#[104, 117, 108, 108]⟩, .string ⟨#[109, 105, 110, 107, 111, 119, 115, 107, 105]⟩, .string ⟨#[99, 111, 109, 112, 108, 101, 109, 101, 110, 116]⟩, .string ⟨#[105, 110, 116, 101, 114, 105, 111, 114]⟩, .string ⟨#[99, 108, 111, 115, 117, 114, 101]⟩, .string ⟨#[98, 111, 117, 110, 100, 97, 114, 121]⟩, .string ⟨#[114, 101, 103, 117, 108, 97, 114]⟩] 9))) := by
    obtain ⟨m, D, h1, h2, h3⟩ := H0.out
    exact ⟨⟨m, D, by omega, h2.alloc _, h3⟩, HS.out, HB0.out.1.alloc HB0.out.1.size _⟩
  obtain ⟨ga, hga⟩ : ∃ g, w1.heap.size = g := ⟨_, rfl⟩
  rw [hga] at HT ⊢
  have hlta : w.heap.size < ga := by omega
  clear HS H0 HB0 hga
  generalize World.alloc w1 (.cells #[.string ⟨#[117, 110, 105, 111, 110]⟩, .string ⟨#[105, 110, 116, 101, 114, 115, 101, 99, 116, 105, 111, 110]⟩, .string ⟨#[100, 105, 102, 102, 101, 114, 101, 110, 99, 101]⟩, .string ⟨#[120, 111, 114]⟩, .string ⟨#[104, 117, 108, 108]⟩, .string ⟨#[109, 105, 110, 107, 111, 119, 115, 107, 105]⟩, .string ⟨#[99, 111, 109, 112, 108, 101, 109, 101, 110, 116]⟩, .string ⟨#[105, 110, 116, 101, 114, 105, 111, 114]⟩, .string ⟨#[99, 108, 111, 115, 117, 114, 101]⟩, .string ⟨#[98, 111, 117, 110, 100, 97, 114, 121]⟩, .string ⟨#[114, 101, 103, 117, 108, 97, 114]⟩] 9) = Wa at HT ⊢
  go_loopg [17] 11 (fun g v wx => ∃ i : Nat, v = .int .i64 i ∧ i + g = 11 ∧ Hid ((∃ m D, m ≤ 7 + i ∧ wx.ownsMap Tryz.prog 9 tkElem w.heap.size m D ∧ TkD D (fun s => if s ∈ mb0.take i then some (0, true) else (md7) s)) ∧ SRow wx ga mb0 ∧ Below w.heap.size w wx))
  case atStart => exact ⟨0, rfl, by omega, HT⟩
  case round =>
    obtain ⟨i, rfl, hi, hST⟩ := hrel
    by_cases hlt : i < 11
    · obtain ⟨x, hx⟩ : ∃ x, mb0[i]? = some x := ⟨mb0[i]'hlt, List.getElem?_eq_getElem _⟩
      have hxl : x.length ≤ maxLen := mb_len x (by simp [List.mem_of_getElem? hx])
      obtain ⟨⟨m, D, hm, hown, hD⟩, hS, hb⟩ := hST.out
      have hc := hS.at_ hx
      have hlt' : (i : Int) < 11 := by omega
      have Qi1 : IntKind.i64.wrap ((i : Int) + 1) = (i : Int) + 1 := IntWalk.i64_in _ (by omega)
      have hwl : w.heap.size < wr.heap.size := hown.lt
      have HD := Lib.hid (hD.put x 0 true)
      have HX := Lib.hid hx
      have HXL := Lib.hid hxl
      have HS := Lib.hid hS
      have HBB := Lib.hid hb
      clear hS hb hD hx hST hxl
      go_wp2_with (at_mapUpdate; refine wpList_mapUpdate_own _ rfl _ _ _ 117 rfl 9 171 Tryz.kStr Tryz.underlying117 tkElem _ _ _ rfl hown (by unfold maxLen; omega) _ _ _ rfl rfl (key_str _ HXL.out) _ [] (tkElem_mk _ _) ?_; intro w2 hown2 hgrow2)
      have HN : Hid ((∃ m D, m ≤ 7 + (i + 1) ∧ w2.ownsMap Tryz.prog 9 tkElem w.heap.size m D ∧ TkD D (fun s => if s ∈ mb0.take (i + 1) then some (0, true) else (md7) s)) ∧ SRow w2 ga mb0 ∧ Below w.heap.size w w2) := by
        refine ⟨⟨_, _, by omega, hown2, HD.out.fun_ (take_fun mb0 i x HX.out (0, true) _)⟩, (hgrow2.block ga (Array.getElem?_eq_some_iff.1 HS.out).1 (fun e => by cases e; omega)).trans HS.out, (Below.grownN ⟨HBB.out, Nat.le_refl _, by omega⟩ hgrow2).1⟩
      clear hown hown2 hgrow2 hc
      go_roundg (gk - 1)
      case measure => omega
      case rel => exact ⟨i + 1, rfl, by omega, HN⟩
    · have hlt' : ¬ (i : Int) < 11 := by omega
      obtain rfl : i = 11 := by omega
      clear hlt hi
      have hwl : w.heap.size < wr.heap.size := by
        obtain ⟨⟨m, D, hm, ho, hD⟩, _⟩ := hST.out
        exact ho.lt
      have H1 : Hid (∃ m D, m ≤ 18 ∧ wr.ownsMap Tryz.prog 9 tkElem w.heap.size m D ∧ TkD D (fun s => if s ∈ mb1.take 0 then some (1, true) else (fun s => if s ∈ mb0 then some (0, true) else md7 s) s)) := by
        obtain ⟨⟨m, D, hm, ho, hD⟩, _⟩ := hST.out
        exact ⟨m, D, by omega, ho, hD.fun_ (by funext s; rw [List.take_of_length_le (by decide)]; simp)⟩
      have HB1 : Hid (Below w.heap.size w wr ∧ True) := Lib.hid ⟨hST.out.2.2, trivial⟩
      clear hST

      go_wp2_with fail
      have HS : Hid (SRow (wr.alloc (.cells #[.string ⟨#[109, 111, 118, 101]⟩, .string ⟨#[115, 116, 114, 101, 116, 99, 104]⟩, .string ⟨#[109, 105, 114, 114, 111, 114]⟩, .string ⟨#[116, 117, 114, 110]⟩, .string ⟨#[109, 97, 112]⟩] 9)) wr.heap.size mb1) := heap_alloc_new wr _
      have HT : Hid ((∃ m D, m ≤ 18 + 0 ∧ (wr.alloc (.cells #[.string ⟨#[109, 111, 118, 101]⟩, .string ⟨#[115, 116, 114, 101, 116, 99, 104]⟩, .string ⟨#[109, 105, 114, 114, 111, 114]⟩, .string ⟨#[116, 117, 114, 110]⟩, .string ⟨#[109, 97, 112]⟩] 9)).ownsMap Tryz.prog 9 tkElem w.heap.size m D ∧ TkD D (fun s => if s ∈ mb1.take 0 then some (1, true) else (fun s => if s ∈ mb0 then some (0, true) else md7 s) s)) ∧ SRow (wr.alloc (.cells #[.string ⟨#[109, 111, 118, 101]⟩, .string ⟨#[115, 116, 114, 101, 116, 99, 104]⟩, .string ⟨#[109, 105, 114, 114, 111, 114]⟩, .string ⟨#[116, 117, 114, 110]⟩, .string ⟨#[109, 97, 112]⟩] 9)) wr.heap.size mb1 ∧ Below w.heap.size w (wr.alloc (.cells #[.string ⟨#[109, 111, 118, 101]⟩, .string ⟨#[115, 116, 114, 101, 116, 99, 104]⟩, .string ⟨#[109, 105, 114, 114, 111, 114]⟩, .string ⟨#[116, 117, 114, 110]⟩, .string ⟨#[109, 97, 112]⟩] 9))) := by
        obtain ⟨m, D, h1, h2, h3⟩ := H1.out
        exact ⟨⟨m, D, by omega, h2.alloc _, h3⟩, HS.out, HB1.out.1.alloc HB1.out.1.size _⟩
      obtain ⟨gb, hgb⟩ : ∃ g, wr.heap.size = g := ⟨_, rfl⟩
      rw [hgb] at HT ⊢
      have hltb : w.heap.size < gb := by omega
      clear HS H1 HB1 hgb
      generalize World.alloc wr (.cells #[.string ⟨#[109, 111, 118, 101]⟩, .string ⟨#[115, 116, 114, 101, 116, 99, 104]⟩, .string ⟨#[109, 105, 114, 114, 111, 114]⟩, .string ⟨#[116, 117, 114, 110]⟩, .string ⟨#[109, 97, 112]⟩] 9) = Wb at HT ⊢
      go_loopg [27] 5 (fun g v wx => ∃ i : Nat, v = .int .i64 i ∧ i + g = 5 ∧ Hid ((∃ m D, m ≤ 18 + i ∧ wx.ownsMap Tryz.prog 9 tkElem w.heap.size m D ∧ TkD D (fun s => if s ∈ mb1.take i then some (1, true) else (fun s => if s ∈ mb0 then some (0, true) else md7 s) s)) ∧ SRow wx gb mb1 ∧ Below w.heap.size w wx))
      case atStart => exact ⟨0, rfl, by omega, HT⟩
      case round =>
        obtain ⟨i, rfl, hi, hST⟩ := hrel
        by_cases hlt : i < 5
        · obtain ⟨x, hx⟩ : ∃ x, mb1[i]? = some x := ⟨mb1[i]'hlt, List.getElem?_eq_getElem _⟩
          have hxl : x.length ≤ maxLen := mb_len x (by simp [List.mem_of_getElem? hx])
          obtain ⟨⟨m, D, hm, hown, hD⟩, hS, hb⟩ := hST.out
          have hc := hS.at_ hx
          have hlt' : (i : Int) < 5 := by omega
          have Qi1 : IntKind.i64.wrap ((i : Int) + 1) = (i : Int) + 1 := IntWalk.i64_in _ (by omega)
          have hwl : w.heap.size < wr.heap.size := hown.lt
          have HD := Lib.hid (hD.put x 1 true)
          have HX := Lib.hid hx
          have HXL := Lib.hid hxl
          have HS := Lib.hid hS
          have HBB := Lib.hid hb
          clear hS hb hD hx hST hxl
          go_wp2_with (at_mapUpdate; refine wpList_mapUpdate_own _ rfl _ _ _ 117 rfl 9 171 Tryz.kStr Tryz.underlying117 tkElem _ _ _ rfl hown (by unfold maxLen; omega) _ _ _ rfl rfl (key_str _ HXL.out) _ [] (tkElem_mk _ _) ?_; intro w2 hown2 hgrow2)
          have HN : Hid ((∃ m D, m ≤ 18 + (i + 1) ∧ w2.ownsMap Tryz.prog 9 tkElem w.heap.size m D ∧ TkD D (fun s => if s ∈ mb1.take (i + 1) then some (1, true) else (fun s => if s ∈ mb0 then some (0, true) else md7 s) s)) ∧ SRow w2 gb mb1 ∧ Below w.heap.size w w2) := by
            refine ⟨⟨_, _, by omega, hown2, HD.out.fun_ (take_fun mb1 i x HX.out (1, true) _)⟩, (hgrow2.block gb (Array.getElem?_eq_some_iff.1 HS.out).1 (fun e => by cases e; omega)).trans HS.out, (Below.grownN ⟨HBB.out, Nat.le_refl _, by omega⟩ hgrow2).1⟩
          clear hown hown2 hgrow2 hc
          go_roundg (gk - 1)
          case measure => omega
          case rel => exact ⟨i + 1, rfl, by omega, HN⟩
        · have hlt' : ¬ (i : Int) < 5 := by omega
          obtain rfl : i = 5 := by omega
          clear hlt hi
          go_wp2_with fail
          go_ret
          obtain ⟨m, D, hm, ho, hD⟩ := hST.out.1
          exact ⟨_, rfl, Nat.le_refl _, ⟨m, D, by omega, ho, hD.fun_ (by rw [← md_fun]; funext s; rw [List.take_of_length_le (by decide)])⟩, hST.out.2.2⟩
end Go.Proofs.YtpbkeamjdolpgaaGreatDoor
namespace Go.Proofs.YtpbkeamjdolpgaaGreatDoor
open Go.RowKit Go.Lib
open Go.Maps (Keyed)

structure SCtx where
  wb : Nat
  fb : Nat
  mb : Nat
  eb : Nat
  cb : Nat
  wf : Nat
  all : Bool
def MayT (Γ : SCtx) (b : Nat) : Prop := b = Γ.wb ∨ b = Γ.eb ∨ b = Γ.cb
structure WSt (Γ : SCtx) (w : World) (m : Nat) (ev : List Ev) : Prop where
  blk : w.heap[Γ.wb]? = some (.cells #[.map none, .map (some Γ.fb), .map (some Γ.mb), .int .i64 m, .func (.func Γ.wf) #[] #[], .map (some Γ.eb), .map (some Γ.cb)] 121 (0, 0))
  fns : TkMap w Γ.fb (fun s => (fnB s).map (·, false))
  mds : TkMap w Γ.mb mdB
  fre : CntMap w Γ.eb (missE ev)
  cal : CntMap w Γ.cb (calledE ev)
  n1 : Γ.wb ≠ Γ.eb
  n2 : Γ.wb ≠ Γ.cb
  n3 : Γ.eb ≠ Γ.cb
  n4 : ¬ MayT Γ Γ.fb
  n5 : ¬ MayT Γ Γ.mb
theorem WSt.may {Γ : SCtx} {w : World} {m : Nat} {ev : List Ev} (h : WSt Γ w m ev) : ∀ b, MayT Γ b → b < w.heap.size := by
  intro b hb
  rcases hb with rfl | rfl | rfl
  · exact (Array.getElem?_eq_some_iff.1 h.blk).1
  · exact h.fre.lt
  · exact h.cal.lt
theorem WSt.same {Γ : SCtx} {w w' : World} {m : Nat} {ev : List Ev} (h : WSt Γ w m ev) (hk : ∀ k, k < w.heap.size → w'.heap[k]? = w.heap[k]?) : WSt Γ w' m ev :=
  ⟨(hk _ (h.may _ (.inl rfl))).trans h.blk, h.fns.keep (hk _ h.fns.lt), h.mds.keep (hk _ h.mds.lt), h.fre.keep (hk _ h.fre.lt), h.cal.keep (hk _ h.cal.lt), h.n1, h.n2, h.n3, h.n4, h.n5⟩
theorem WSt.below {Γ : SCtx} {w w' : World} {m : Nat} {ev : List Ev} (h : WSt Γ w m ev) (hb : Below w.heap.size w w') : WSt Γ w' m ev := h.same fun k hk => hb.block k hk
theorem WSt.cells {Γ : SCtx} {w : World} {m : Nat} {ev : List Ev} (h : WSt Γ w m ev) : w.cell? ⟨Γ.wb, 0, none⟩ = some (.map none) ∧ w.cell? ⟨Γ.wb, 1, none⟩ = some (.map (some Γ.fb)) ∧ w.cell? ⟨Γ.wb, 2, none⟩ = some (.map (some Γ.mb)) ∧ w.cell? ⟨Γ.wb, 3, none⟩ = some (.int .i64 m) ∧
    w.cell? ⟨Γ.wb, 4, none⟩ = some (.func (.func Γ.wf) #[] #[]) ∧ w.cell? ⟨Γ.wb, 5, none⟩ = some (.map (some Γ.eb)) ∧ w.cell? ⟨Γ.wb, 6, none⟩ = some (.map (some Γ.cb)) ∧ w.frozen? ⟨Γ.wb, 3, none⟩ = false := by
  have hb := h.blk
  refine ⟨?_, ?_, ?_, ?_, ?_, ?_, ?_, ?_⟩ <;> simp [World.cell?, World.frozen?, hb]
theorem WSt.local {Γ : SCtx} {W w w' : World} {m m0 : Nat} {ev ev0 : List Ev} (h0 : WSt Γ W m0 ev0) (h : WSt Γ w m ev) {b : Nat} (hb : W.heap.size ≤ b) (hk : ∀ k, k ≠ b → w'.heap[k]? = w.heap[k]?) : WSt Γ w' m ev := by
  have g : ∀ k, k < W.heap.size → w'.heap[k]? = w.heap[k]? := fun k hl => hk k (by omega)
  exact ⟨(g _ (h0.may _ (.inl rfl))).trans h.blk, h.fns.keep (g _ h0.fns.lt), h.mds.keep (g _ h0.mds.lt), h.fre.keep (g _ h0.fre.lt), h.cal.keep (g _ h0.cal.lt), h.n1, h.n2, h.n3, h.n4, h.n5⟩
theorem Owp.fresh {P : Nat → Prop} {W w w' : World} (h : Owp P W w) {b : Nat} (hb : W.heap.size ≤ b) (hw : Ow b w w') : Owp P W w' :=
  ⟨hw.os.trans h.os, hw.tape.trans h.tape, hw.output.trans h.output, Nat.le_trans h.size hw.size, fun k hk hn => (hw.block k (Nat.lt_of_lt_of_le hk h.size) (by omega)).trans (h.block k hk hn)⟩
theorem WSt.called {Γ : SCtx} {w w' : World} {m : Nat} {ev : List Ev} (h : WSt Γ w m ev) {s : List UInt8} (hg : w.grownBy w' (some Γ.cb)) (hc : CntMap w' Γ.cb (calledE ev ++ [s])) : WSt Γ w' m (ev ++ [.call s]) := by
  have k : ∀ b, b < w.heap.size → b ≠ Γ.cb → w'.heap[b]? = w.heap[b]? := fun b hb hn => hg.block b hb (fun e => by cases e; exact hn rfl)
  refine ⟨(k _ (h.may _ (.inl rfl)) h.n2).trans h.blk, h.fns.keep (k _ h.fns.lt fun e => h.n4 (.inr (.inr e))), h.mds.keep (k _ h.mds.lt fun e => h.n5 (.inr (.inr e))), ?_, ?_, h.n1, h.n2, h.n3, h.n4, h.n5⟩
  · rw [missE_app, show missE [.call s] = [] from rfl, List.append_nil]
    exact h.fre.keep (k _ h.fre.lt h.n3)
  · rw [calledE_app]
    exact hc
theorem WSt.missed {Γ : SCtx} {w w' : World} {m : Nat} {ev : List Ev} (h : WSt Γ w m ev) {s : List UInt8} {p : Int} (hg : w.grownBy w' (some Γ.eb)) (hc : CntMap w' Γ.eb (missE ev ++ [s])) : WSt Γ w' m (ev ++ [.miss s p]) := by
  have k : ∀ b, b < w.heap.size → b ≠ Γ.eb → w'.heap[b]? = w.heap[b]? := fun b hb hn => hg.block b hb (fun e => by cases e; exact hn rfl)
  refine ⟨(k _ (h.may _ (.inl rfl)) h.n1).trans h.blk, h.fns.keep (k _ h.fns.lt fun e => h.n4 (.inr (.inl e))), h.mds.keep (k _ h.mds.lt fun e => h.n5 (.inr (.inl e))), ?_, ?_, h.n1, h.n2, h.n3, h.n4, h.n5⟩
  · rw [missE_app]
    exact hc
  · rw [calledE_app, show calledE [.miss s p] = [] from rfl, List.append_nil]
    exact h.cal.keep (k _ h.cal.lt fun e => h.n3 e.symm)
theorem WSt.badly {Γ : SCtx} {w : World} {m : Nat} {ev : List Ev} (h : WSt Γ w m ev) (c : Int) (s : List UInt8) (p : Int) : WSt Γ w m (ev ++ [.bad c s p]) := by
  refine ⟨h.blk, h.fns, h.mds, ?_, ?_, h.n1, h.n2, h.n3, h.n4, h.n5⟩
  · rw [missE_app, show missE [.bad c s p] = [] from rfl, List.append_nil]
    exact h.fre
  · rw [calledE_app, show calledE [.bad c s p] = [] from rfl, List.append_nil]
    exact h.cal
theorem WSt.nil {Γ : SCtx} {w : World} {m : Nat} {ev : List Ev} (h : WSt Γ w m ev) : WSt Γ w m (ev ++ []) := by rwa [List.append_nil]
theorem CntMap.inc {w : World} {b : Nat} {l : List (List UInt8)} (h : CntMap w b l) (hl : l.length < 2 ^ 40) (s : List UInt8) (hs : s.length ≤ maxLen) :
    ∃ c w', (Instr.lookup 119 (.map (some b)) (.string ⟨s.toArray⟩) false).run Tryz.prog w = .ok (.int .i64 c) w ∧ (Instr.mapUpdate 119 (.map (some b)) (.string ⟨s.toArray⟩) (.int .i64 (IntKind.i64.wrap (c + 1)))).run Tryz.prog w = .ok () w' ∧ w.grownBy w' (some b) ∧ CntMap w' b (l ++ [s]) := by
  obtain ⟨D, ho, hD⟩ := h
  obtain ⟨c, h1, _, _⟩ := ho.lookup_int Tryz.kStr Tryz.underlying119 Tryz.underlying3 (Tryz.zeroIntM w) (key_str s hs)
  obtain ⟨w', h2, h3, h4⟩ := ho.update (t := 119) (e := 3) Tryz.kStr Tryz.underlying119 (by unfold maxLen; omega) (key_str s hs) (plainElem_int (H := Unit) Tryz.underlying3 (a := IntKind.i64.wrap (c + 1)) (Go.WideShapes.wf_wrap _ _))
  exact ⟨c, w', h1, h2, h4, _, by simpa using h3, hD.put s _⟩
theorem missE_len : ∀ ev : List Ev, (missE ev).length ≤ ev.length
  | [] => Nat.le_refl _
  | x :: r => by
    have := missE_len r
    cases x <;> simp [missE] <;> omega
theorem calledE_len : ∀ ev : List Ev, (calledE ev).length ≤ ev.length
  | [] => Nat.le_refl _
  | x :: r => by
    have := calledE_len r
    cases x <;> simp [calledE] <;> omega
def WrongOk (Γ : SCtx) : Prop := (∀ args w, (callFunc Γ.wf args).run Tryz.prog w = .ok (.enter Γ.wf args) w) ∧
  ∀ (k : Int) (n : List UInt8) (y : Option Addr) (len c : Nat) (p : Int) (code : Int) (w : World), Calls Tryz.prog Γ.wf #[.agg #[.int .i64 k, .string ⟨n.toArray⟩, .slice y len c, .int .i64 p], .int .i64 code] w fun e w' =>
    (Γ.all = true ∧ e = .returned (.tuple #[]) ∧ Below w.heap.size w w') ∨
    (Γ.all = false ∧ Below w.heap.size w w' ∧ ∃ b, w.heap.size ≤ b ∧ e = .panicked [{ v := .iface 23 (.pointer (some ⟨b, 0, none⟩)), recovered := false }] ∧ w'.heap[b]? = some (.cells #[.int .i64 code, .int .i64 p, .string ⟨n.toArray⟩] 61 (0, 0)))
def SOk (Γ : SCtx) (w : World) (m : Nat) (ev evN : List Ev) (w' : World) : Prop := (Γ.all = true ∨ wrongE evN = none) ∧ WSt Γ w' m (ev ++ evN) ∧ Owp (MayT Γ) w w'
def SBad (Γ : SCtx) (w : World) (evN : List Ev) (e : Ending) (w' : World) : Prop := Γ.all = false ∧ ∃ c n p b, wrongE evN = some (c, n, p) ∧ w.heap.size ≤ b ∧ e = .panicked [{ v := .iface 23 (.pointer (some ⟨b, 0, none⟩)), recovered := false }] ∧
  w'.heap[b]? = some (.cells #[.int .i64 c, .int .i64 p, .string ⟨n.toArray⟩] 61 (0, 0)) ∧ Owp (MayT Γ) w w'
def SEnd (Γ : SCtx) (w : World) (m : Nat) (ev evN : List Ev) (e : Ending) (w' : World) : Prop := (e = .returned (.tuple #[]) ∧ SOk Γ w m ev evN w') ∨ SBad Γ w evN e w'
def SEndE (Γ : SCtx) (w : World) (m : Nat) (ev evN : List Ev) (ρ : Env) (e : Ending) (w' : World) : Prop := (∃ v, e = .returned v ∧ EnvAt w' (MayT Γ) ρ v ∧ SOk Γ w m ev evN w') ∨ SBad Γ w evN e w'
theorem SOk.start {Γ : SCtx} {w w' : World} {m : Nat} {ev : List Ev} (h : WSt Γ w m ev) (hb : Below w.heap.size w w') : SOk Γ w m ev [] w' := ⟨.inr rfl, (h.below hb).nil, Owp.of_below hb⟩
theorem SOk.trans {Γ : SCtx} {w w1 w2 : World} {m m' : Nat} {ev e1 e2 : List Ev} (h : SOk Γ w m ev e1 w1) (k : SOk Γ w1 m' (ev ++ e1) e2 w2) : SOk Γ w m' ev (e1 ++ e2) w2 := by
  refine ⟨?_, by rw [← List.append_assoc]; exact k.2.1, h.2.2.trans k.2.2⟩
  rcases h.1 with h1 | h1
  · exact .inl h1
  · rcases k.1 with k1 | k1
    · exact .inl k1
    · right
      rw [wrongE_app, h1, k1]
      rfl
theorem SBad.pan {Γ : SCtx} {w w' : World} {e1 : List Ev} {e : Ending} (h : SBad Γ w e1 e w') : ∃ ch, e = .panicked ch := by
  obtain ⟨_, c, n, p, b, _, _, h3, _⟩ := h
  exact ⟨_, h3⟩
theorem SBad.left {Γ : SCtx} {w w' : World} {e1 : List Ev} {e : Ending} (h : SBad Γ w e1 e w') (e2 : List Ev) : SBad Γ w (e1 ++ e2) e w' := by
  obtain ⟨h0, c, n, p, b, h1, h2⟩ := h
  exact ⟨h0, c, n, p, b, by rw [wrongE_app, h1]; rfl, h2⟩
theorem SBad.right {Γ : SCtx} {w w1 w' : World} {m : Nat} {ev e1 e2 : List Ev} {e : Ending} (k : SOk Γ w m ev e1 w1) (h : SBad Γ w1 e2 e w') : SBad Γ w (e1 ++ e2) e w' := by
  obtain ⟨h0, c, n, p, b, h1, h2, h3, h4, h5⟩ := h
  refine ⟨h0, c, n, p, b, ?_, Nat.le_trans k.2.2.size h2, h3, h4, k.2.2.trans h5⟩
  rcases k.1 with k1 | k1
  · rw [h0] at k1
    cases k1
  · rw [wrongE_app, k1, h1]
    rfl
set_option maxHeartbeats 4000000 in
set_option maxRecDepth 100000 in
theorem missing_any (Γ : SCtx) (hw : WrongOk Γ) (m : Nat) (ev : List Ev) (hl : ev.length < 2 ^ 40) (k : Int) (n : List UInt8) (hn : n.length < 2 ^ 40) (y : Option Addr) (len c : Nat) (p : Int) (w : World) (h : WSt Γ w m ev) :
    Calls Tryz.prog 233 #[.pointer (some ⟨Γ.wb, 0, none⟩), .agg #[.int .i64 k, .string ⟨n.toArray⟩, .slice y len c, .int .i64 p]] w (SEnd Γ w m ev [.miss n p]) := by
  have hA : Below w.heap.size w (w.alloc (.cells #[.int .i64 k, .string ⟨n.toArray⟩, .slice y len c, .int .i64 p] 53)) := (Below.refl _ _).alloc (Nat.le_refl _) _
  have HA := Lib.hid hA
  have H0 := Lib.hid h
  have H1 := Lib.hid (h.below hA)
  have HB := Lib.hid (Box4.new w (.int .i64 k) (.string ⟨n.toArray⟩) (.slice y len c) (.int .i64 p))
  have HW := Lib.hid hw
  have HL : Hid ((missE ev).length < 2 ^ 40) := Lib.hid (Nat.lt_of_le_of_lt (missE_len ev) hl)
  have HN : Hid (n.length ≤ maxLen) := by
    show n.length ≤ maxLen
    unfold maxLen
    omega
  clear h hA hw hl hn
  go_enter Tryz.func233, Tryz.ntmps233
  go_upto_region 1 with (fail)
  obtain ⟨a, ha⟩ : ∃ a, w.heap.size = a := ⟨_, rfl⟩
  rw [ha] at HB ⊢
  have HAA := Lib.hid ha
  clear ha
  generalize World.alloc w (.cells #[.int .i64 k, .string ⟨n.toArray⟩, .slice y len c, .int .i64 p] 53) = W at HA H1 HB ⊢
  obtain ⟨x0, x1, x2, x3, xf⟩ := HB.out.facts
  obtain ⟨-, -, -, -, c4, c5, -, -⟩ := H1.out.cells
  obtain ⟨cv, w2, hlook, hupd, hgrow, hcnt⟩ := CntMap.inc (w := W.drew) (b := Γ.eb) (l := missE ev) (H1.out.fre.keep rfl) HL.out n HN.out
  have hal : a ≠ Γ.eb := by
    have := HAA.out
    have := H0.out.fre.lt
    omega
  have H2 : Hid (WSt Γ w2 m (ev ++ [.miss n p])) := Lib.hid (WSt.missed (w := W.drew) (H1.out.same fun _ _ => rfl) hgrow hcnt)
  have HB2 : Hid (Box4 w2 a (.int .i64 k) (.string ⟨n.toArray⟩) (.slice y len c) (.int .i64 p)) := Lib.hid ((hgrow.block a HB.out.lt (fun e => by cases e; exact hal rfl)).trans HB.out)
  have HO2 : Hid (Owp (MayT Γ) w w2) := by
    have h1 : Owp (MayT Γ) w W.drew := Owp.of_below HA.out.drew
    exact h1.trans ⟨hgrow.os, hgrow.tape, hgrow.output, hgrow.size, fun j hj hn => hgrow.block j hj (fun e => by cases e; exact hn (.inr (.inl rfl)))⟩
  clear hcnt hal
  go_still_tail 8, (by kernel_rfl)
  change wpList _ _ _ _ _ (World.drew W)
  go_wp2_with fail
  clear hlook hupd hgrow c4 c5 x0 x1 x2 x3 xf
  obtain ⟨x0, x1, x2, x3, xf⟩ := HB2.out.facts
  obtain ⟨-, -, -, -, c4, -, -, -⟩ := H2.out.cells
  have hw2 := HW.out.2 k n y len c p 280 w2.drew
  have eg := HW.out.1
  go_still_tail 5, (by kernel_rfl)
  change wpList _ _ _ _ _ (World.drew w2)
  have H3 : Hid (WSt Γ w2.drew m (ev ++ [.miss n p])) := Lib.hid (H2.out.same fun _ _ => rfl)
  have HO3 : Hid (Owp (MayT Γ) w w2.drew) := Lib.hid (HO2.out.below (Below.refl _ _).drew)
  generalize World.drew w2 = w3 at *
  go_wp2_with fail
  go_at_fn Γ.wf
  refine hw2.mono ?_
  clear hw2
  rintro e w4 (⟨ha, rfl, hb⟩ | ⟨ha, hb, b, hbl, rfl, hf⟩)
  · have HE : Hid (SOk Γ w m ev [.miss n p] w4) := Lib.hid ⟨.inl ha, H3.out.below hb, HO3.out.below hb⟩
    clear ha hb
    go_wp2_with fail
    go_end0
    exact .inl ⟨rfl, HE.out⟩
  · exact ⟨rfl, .inr ⟨ha, 280, n, p, b, rfl, Nat.le_trans HO3.out.size hbl, rfl, hf, HO3.out.below hb⟩⟩
end Go.Proofs.YtpbkeamjdolpgaaGreatDoor
