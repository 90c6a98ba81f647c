/- The walk of tree.kinds. The walks of tree.part, and of its closure. Where the tokens of a text stand. Plain laws: words do not look beyond a blank; the tokens of two texts on two lines. Plain: a token cut out of a text is that token; blanks and comments. Plain: the tokens of a text that is put together of words and blanks. Plain: the words of a tree, and that they are the words of its text. The walk of tree.expression. The walk of tree.expression: signs, numbers, and what is none. The walks of the parser's atoms and signs of one. The walks of the parser's add and block. A node that is being put together: what is known between two calls. The walk of the parser's signs of one and indices. -/
import Derived.Test.YtpbkeamjdolpgaaGreatDoorZb01
import Derived.BigQuiet
import Derived.Deep.QuietTactic
import Derived.Lib.QuietBelow
import Derived.Lib.SpaceUEq
import Derived.Deep.RegionHeld3
import Derived.Deep.RegionLaw
import Derived.Deep.RegionWith
import Derived.RegionDies
import Derived.Deep.AppendLies
namespace Go.Proofs.YtpbkeamjdolpgaaGreatDoor
open Go.RowKit Go.Lib Go.Shelf Go.Sort

def tstR (w : Int) (x : Nd) : Bool := if w < 0 then exR x else decide (x.kind = w) && partR x
theorem shR_take : ∀ (ws : List Int) (l : List Nd), l.length ≤ ws.length → (shR (ws.take l.length) l = true ↔ ∀ (i : Nat) (w : Int) (x : Nd), ws[i]? = some w → l[i]? = some x → tstR w x = true)
  | ws, [], _ => by
    rw [List.length_nil, List.take_zero]
    exact ⟨fun _ i w x _ h => by simp at h, fun _ => rfl⟩
  | [], x :: l, h => by simp at h
  | w :: ws, x :: l, h => by
    have ih := shR_take ws l (by simp at h; omega)
    have e : shR ((w :: ws).take (x :: l).length) (x :: l) = (tstR w x && shR (ws.take l.length) l) := rfl
    rw [e, Bool.and_eq_true, ih]
    constructor
    · rintro ⟨h1, h2⟩ i v y hv hy
      cases i with
      | zero =>
        cases hv
        cases hy
        exact h1
      | succ i => exact h2 i v y (by simpa using hv) (by simpa using hy)
    · intro h
      exact ⟨h 0 w x rfl rfl, fun i v y hv hy => h (i + 1) v y (by simpa using hv) (by simpa using hy)⟩
theorem shR_len : ∀ (ws : List Int) (l : List Nd), shR ws l = true → ws.length = l.length
  | [], [], _ => rfl
  | [], _ :: _, h => by cases h
  | _ :: _, [], h => by cases h
  | w :: ws, x :: l, h => by
    have e : (tstR w x && shR ws l) = true := h
    rw [Bool.and_eq_true] at e
    rw [List.length_cons, List.length_cons, shR_len ws l e.2]
def kindsR (short : Bool) (ws : List Int) (l : List Nd) : Bool := (decide (l.length = ws.length) || (short && decide (l.length + 1 = ws.length))) && shR (ws.take l.length) l
def IntRow (w : World) (g : Nat) (ws : List Int) : Prop := ∀ j u, ws[j]? = some u → w.cell? ⟨g, j, none⟩ = some (.int .i64 u)
theorem IntRow.below {w w' : World} {g : Nat} {ws : List Int} (h : IntRow w g ws) (hb : Below w.heap.size w w') : IntRow w' g ws :=
  fun j u hj => (hb.cell (p := ⟨g, j, none⟩) (World.block_lt_of_cell? w _ (h j u hj))).trans (h j u hj)
set_option maxHeartbeats 4000000 in
set_option maxRecDepth 100000 in
theorem kinds_no (short : Bool) (n m : Nat) (_hn : n < 2 ^ 62) (hm : m ≤ 3) (h1 : n ≠ m) (h2 : short = true → n + 1 ≠ m) (y : Option Addr) (c g cm : Nat) (w : World) :
    Calls Tryz.prog 93 #[.slice y n c, .bool short, .slice (some ⟨g, 0, none⟩) m cm] w fun e w' => e = .returned (.bool false) ∧ w = w' := by
  have Q1 : ((n : Int) != (m : Int)) = true := by rw [bne_iff_ne]; omega
  have Q2 : short = true → ((n : Int) == (m : Int) - 1) = false := fun h => beq_eq_false_iff_ne.2 (by have := h2 h; omega)
  have Q3 : IntKind.i64.wrap ((m : Int) - 1) = (m : Int) - 1 := IntWalk.i64_in _ (by omega)
  cases short
  · clear Q2 h1 h2
    go_enter Tryz.func93, Tryz.ntmps93
    go_wp2_with fail
    go_ret
    exact ⟨rfl, rfl⟩
  · have Q4 := Q2 rfl
    clear Q2 h1 h2
    go_enter Tryz.func93, Tryz.ntmps93
    go_wp2_with fail
    go_ret
    exact ⟨rfl, rfl⟩
set_option maxHeartbeats 8000000 in
set_option maxRecDepth 100000 in
theorem kinds_yes (ok : Nat → Prop) (short : Bool) (ws : List Int) (m : Nat) (hm : ws.length = m) (hm3 : m ≤ 3) (l : List Nd) (n : Nat) (hl : l.length = n) (hs : n = m ∨ short = true ∧ n + 1 = m) (y : Option Addr) (c g cm : Nat) (w : World) (hrow : NdRow w ok l y) (hi : IntRow w g ws) (h : ∀ x ∈ l, OneQ 147 [] ok exR w x ∧ OneQ 148 [] ok partR w x) :
    Calls Tryz.prog 93 #[.slice y n c, .bool short, .slice (some ⟨g, 0, none⟩) m cm] w (Yes (shR (ws.take n) l) w) := by
  have hnm : n ≤ m := by omega
  have Q1 : ((n : Int) != (m : Int)) = false ∨ (((n : Int) != (m : Int)) = true ∧ short = true ∧ ((n : Int) == (m : Int) - 1) = true) := by
    rcases hs with h | ⟨h1, h2⟩
    · left; rw [bne_eq_false_iff_eq]; omega
    · right; exact ⟨by rw [bne_iff_ne]; omega, h1, beq_iff_eq.2 (by omega)⟩
  have Q3 : IntKind.i64.wrap ((m : Int) - 1) = (m : Int) - 1 := IntWalk.i64_in _ (by omega)
  have hsh := shR_take ws l (by omega)
  rw [hl] at hsh
  obtain ⟨R, hR⟩ : ∃ R, shR (ws.take n) l = R := ⟨_, rfl⟩
  rw [hR] at hsh ⊢
  have HSH := Lib.hid hsh
  have HL := Lib.hid hl
  have HM := Lib.hid hm
  have HROW := Lib.hid hrow
  have HI := Lib.hid hi
  have HH := Lib.hid h
  clear h hrow hi hl hm hsh hR hs
  have eg := enters_of Tryz.func147 (by kernel_rfl) rfl
  go_enter Tryz.func93, Tryz.ntmps93
  rcases Q1 with Q1 | ⟨Q1, rfl, Q2⟩
  all_goals (
    go_wp2_with fail
    go_loopw [27] (fun v wx => ∃ i : Nat, v = .int .i64 i ∧ i ≤ n ∧ Below w.heap.size w wx ∧ Hid (∀ (j : Nat) (u : Int) (x : Nd), j < i → ws[j]? = some u → l[j]? = some x → tstR u x = true)) (fun v _ => n - (RowKit.intOf v).toNat)
    case atStart => exact ⟨0, rfl, Nat.zero_le _, Below.refl _ _, fun j u x hj => by omega⟩
    case round =>
      obtain ⟨i, rfl, hin, hb, hf⟩ := hrel
      by_cases hlt : i < n
      · obtain ⟨x, hx⟩ : ∃ u, l[i]? = some u := ⟨l[i]'(by have := HL.out; omega), List.getElem?_eq_getElem _⟩
        obtain ⟨wi, hwi⟩ : ∃ u, ws[i]? = some u := ⟨ws[i]'(by have := HM.out; omega), List.getElem?_eq_getElem _⟩
        obtain ⟨B, o, rfl, hat⟩ := (HROW.out.below hb).at_ hx
        obtain ⟨k, nm, z, kids, cc, p, rfl, x0, x1, x2, x3, hk⟩ := hat.val
        have w0 := (HI.out.below hb) i wi hwi
        have c1 := (HH.out _ (List.mem_of_getElem? hx)).1 (.agg #[.int .i64 k, .string ⟨nm.toArray⟩, .slice z kids.length cc, .int .i64 p])
        have c2 := (HH.out _ (List.mem_of_getElem? hx)).2 (.agg #[.int .i64 k, .string ⟨nm.toArray⟩, .slice z kids.length cc, .int .i64 p])
        simp only [List.append_toArray, List.cons_append, List.nil_append] at c1 c2
        have HWN : Hid (∀ wx, Below wr.heap.size wr wx → wx.cell? ⟨g, i, none⟩ = some (.int .i64 wi)) := fun wx h => ((HI.out.below (tr hb h)) i wi hwi)
        have hi1 : (i : Int) < (n : Int) := by omega
        have hi2 : (i : Int) < (m : Int) := by omega
        have Qi : IntKind.i64.wrap ((i : Int) + 1) = (i : Int) + 1 := IntWalk.i64_in _ (by omega)
        have HNX : Hid (tstR wi (.mk k nm kids p) = true → ∀ (j : Nat) (u : Int) (x : Nd), j < i + 1 → ws[j]? = some u → l[j]? = some x → tstR u x = true) := fun ht j u x' hj hu hx' => by
          by_cases e : j = i
          · subst e
            rw [hwi] at hu
            rw [hx] at hx'
            cases hu
            cases hx'
            exact ht
          · exact hf.out j u x' (by omega) hu hx'
        have HNO : Hid (tstR wi (.mk k nm kids p) = false → R = false) := fun ht => by
          cases hR : R
          · rfl
          · have := HSH.out.1 hR i wi _ hwi hx
            rw [ht] at this
            cases this
        have C1 := Lib.hid (fun wx (h : Below wr.heap.size wr wx) => c1 wx (tr hb h) ⟨z, cc, rfl, hk.below h⟩)
        have C2 := Lib.hid (fun wx (h : Below wr.heap.size wr wx) => c2 wx (tr hb h) ⟨z, cc, rfl, hk.below h⟩)
        clear hk hat c1 c2 hwi hx hf
        by_cases hw : wi < 0
        · have Qw : decide (wi < 0) = true := by simp; omega
          have Qw2 : decide (0 ≤ wi) = false := by simp; omega
          have Qw3 : decide (wi ≥ 0) = false := by simp; omega
          have ht : Hid (tstR wi (.mk k nm kids p) = exR (.mk k nm kids p)) := by
            show tstR wi _ = _
            unfold tstR
            rw [if_pos hw]
          cases hE : exR (.mk k nm kids p)
          · have HN := Lib.hid (HNO.out (by rw [ht.out, hE]))
            have C3 : Hid (∀ wx, Below wr.heap.size wr wx → Calls Tryz.prog 147 #[.agg #[.int .i64 k, .string ⟨nm.toArray⟩, .slice z kids.length cc, .int .i64 p]] wx (Yes false wx)) := fun wx h => by
              have := C1.out wx h
              rw [hE] at this
              exact this
            clear hE ht HNO HNX C1 C2
            go_wp2_with fail
            have cE := fun d os => Calls.regrown_of (C3.out _ (below_regrown wr d os))
            have y0 := cell_regrown x0
            have y1 := cell_regrown x1
            have y2 := cell_regrown x2
            have y3 := cell_regrown x3
            have y4 := cell_regrown w0
            refine wp_region_quiet_below (by kernel_rfl) (by kernel_rfl) ?_
            repeat (go_big_quiet_step (exact cE _ _))
            refine wpQuiet_nil ?_
            intro _ hw'
            obtain ⟨⟨dq, osq⟩, hw''⟩ := hw'
            subst hw''
            have hb2 := below_regrown wr dq osq
            generalize grow (redrawn wr dq) osq = w2 at *
            clear y0 y1 y2 y3 y4 cE
            all_goals (
              go_wp2_with fail
              go_ret
              exact ⟨by rw [HN.out]; rfl, tr hb hb2⟩)
          · have HN := Lib.hid (HNX.out (by rw [ht.out, hE]))
            have C3 : Hid (∀ wx, Below wr.heap.size wr wx → Calls Tryz.prog 147 #[.agg #[.int .i64 k, .string ⟨nm.toArray⟩, .slice z kids.length cc, .int .i64 p]] wx (Yes true wx)) := fun wx h => by
              have := C1.out wx h
              rw [hE] at this
              exact this
            clear hE ht HNO HNX C1 C2
            go_wp2_with fail
            have cE := fun d os => Calls.regrown_of (C3.out _ (below_regrown wr d os))
            have y0 := cell_regrown x0
            have y1 := cell_regrown x1
            have y2 := cell_regrown x2
            have y3 := cell_regrown x3
            have y4 := cell_regrown w0
            refine wp_region_quiet_below (by kernel_rfl) (by kernel_rfl) ?_
            repeat (go_big_quiet_step (exact cE _ _))
            refine wpQuiet_nil ?_
            intro _ hw'
            obtain ⟨⟨dq, osq⟩, hw''⟩ := hw'
            subst hw''
            have hb2 := below_regrown wr dq osq
            generalize grow (redrawn wr dq) osq = w2 at *
            clear y0 y1 y2 y3 y4 cE
            all_goals (
              go_wp2_with fail
              go_roundw
              case rel => exact ⟨i + 1, by go_num, by omega, tr hb hb2, HN⟩
              case measure => simp [RowKit.intOf]; omega)
        · have Qw : decide (wi < 0) = false := by simp; omega
          have Qw2 : decide (0 ≤ wi) = true := by simp; omega
          have Qw3 : decide (wi ≥ 0) = true := by simp; omega
          by_cases hkw : k = wi
          · have ht : Hid (tstR wi (.mk k nm kids p) = partR (.mk k nm kids p)) := by
              show tstR wi _ = _
              unfold tstR
              rw [if_neg hw, show (Nd.mk k nm kids p).kind = k from rfl, hkw]
              simp
            have Qk : (k != wi) = false := by rw [bne_eq_false_iff_eq]; exact hkw
            cases hE : partR (.mk k nm kids p)
            · have HN := Lib.hid (HNO.out (by rw [ht.out, hE]))
              have C3 : Hid (∀ wx, Below wr.heap.size wr wx → Calls Tryz.prog 148 #[.agg #[.int .i64 k, .string ⟨nm.toArray⟩, .slice z kids.length cc, .int .i64 p]] wx (Yes false wx)) := fun wx h => by
                have := C2.out wx h
                rw [hE] at this
                exact this
              clear hE ht HNO HNX C1 C2 hkw
              go_wp2_with fail
              have cE := fun d os => Calls.regrown_of (C3.out _ (below_regrown wr d os))
              have y0 := cell_regrown x0
              have y1 := cell_regrown x1
              have y2 := cell_regrown x2
              have y3 := cell_regrown x3
              have y4 := cell_regrown w0
              refine wp_region_quiet_below (by kernel_rfl) (by kernel_rfl) ?_
              repeat (go_big_quiet_step (exact cE _ _))
              refine wpQuiet_nil ?_
              intro _ hw'
              obtain ⟨⟨dq, osq⟩, hw''⟩ := hw'
              subst hw''
              have hb2 := below_regrown wr dq osq
              generalize grow (redrawn wr dq) osq = w2 at *
              clear y0 y1 y2 y3 y4 cE
              all_goals (
                go_wp2_with fail
                go_ret
                exact ⟨by rw [HN.out]; rfl, tr hb hb2⟩)
            · have HN := Lib.hid (HNX.out (by rw [ht.out, hE]))
              have C3 : Hid (∀ wx, Below wr.heap.size wr wx → Calls Tryz.prog 148 #[.agg #[.int .i64 k, .string ⟨nm.toArray⟩, .slice z kids.length cc, .int .i64 p]] wx (Yes true wx)) := fun wx h => by
                have := C2.out wx h
                rw [hE] at this
                exact this
              clear hE ht HNO HNX C1 C2 hkw
              go_wp2_with fail
              have cE := fun d os => Calls.regrown_of (C3.out _ (below_regrown wr d os))
              have y0 := cell_regrown x0
              have y1 := cell_regrown x1
              have y2 := cell_regrown x2
              have y3 := cell_regrown x3
              have y4 := cell_regrown w0
              refine wp_region_quiet_below (by kernel_rfl) (by kernel_rfl) ?_
              repeat (go_big_quiet_step (exact cE _ _))
              refine wpQuiet_nil ?_
              intro _ hw'
              obtain ⟨⟨dq, osq⟩, hw''⟩ := hw'
              subst hw''
              have hb2 := below_regrown wr dq osq
              generalize grow (redrawn wr dq) osq = w2 at *
              clear y0 y1 y2 y3 y4 cE
              all_goals (
                go_wp2_with fail
                go_roundw
                case rel => exact ⟨i + 1, by go_num, by omega, tr hb hb2, HN⟩
                case measure => simp [RowKit.intOf]; omega)
          · have ht : tstR wi (.mk k nm kids p) = false := by
              unfold tstR
              rw [if_neg hw, show (Nd.mk k nm kids p).kind = k from rfl]
              simp [hkw]
            have Qk : (k != wi) = true := by rw [bne_iff_ne]; exact hkw
            have HN := Lib.hid (HNO.out ht)
            clear ht HNO HNX C1 C2 hkw
            go_wp2_with fail
            go_quiet (fail)
            go_wp2_with fail
            go_ret
            exact ⟨by rw [HN.out]; rfl, bdn hb _⟩
      · have hR : Hid (R = true) := HSH.out.2 fun j u x hu hx => hf.out j u x (by have := (List.getElem?_eq_some_iff.1 hx).1; have := HL.out; omega) hu hx
        have hi1 : ¬ (i : Int) < (n : Int) := by omega
        clear hf
        go_wp2_with fail
        go_ret
        exact ⟨by rw [hR.out]; rfl, hb⟩)
end Go.Proofs.YtpbkeamjdolpgaaGreatDoor
namespace Go.Proofs.YtpbkeamjdolpgaaGreatDoor
open Go.RowKit Go.Lib Go.Shelf Go.Sort

theorem exsR_all : ∀ l : List Nd, exsR l = l.all exR
  | [] => rfl
  | x :: r => by
    show (exR x && exsR r) = _
    rw [exsR_all r, List.all_cons]
theorem stsR_all : ∀ l : List Nd, stsR l = l.all stR
  | [] => rfl
  | x :: r => by
    show (stR x && stsR r) = _
    rw [stsR_all r, List.all_cons]
theorem parsR_all : ∀ l : List Nd, parsR l = l.all fun x => decide (x.kind = 10) && exR x
  | [] => rfl
  | x :: r => by
    show ((decide (x.kind = 10) && exR x) && parsR r) = _
    rw [parsR_all r, List.all_cons]
def KidsOk (ok : Nat → Prop) (w : World) (l : List Nd) : Prop := ∀ x ∈ l, OneQ 147 [] ok exR w x ∧ OneQ 52 [] ok stR w x ∧ OneQ 148 [] ok partR w x
theorem KidsOk.below {ok : Nat → Prop} {w w1 : World} {l : List Nd} (h : KidsOk ok w l) (hb : Below w.heap.size w w1) : KidsOk ok w1 l := fun x hx => ⟨(h x hx).1.below hb, (h x hx).2.1.below hb, (h x hx).2.2.below hb⟩
def ndO (k : Int) (n : List UInt8) (y : Option Addr) (m c : Nat) (p : Int) : Obj := .cells #[.int .i64 k, .string ⟨n.toArray⟩, .slice y m c, .int .i64 p] 53
set_option maxHeartbeats 4000000 in
set_option maxRecDepth 100000 in
theorem part1_any (ok : Nat → Prop) (w0 : World) (x : Nd) (h : OneQ 147 [] ok exR w0 x) : OneQ 188 [] ok (fun x => decide (x.kind = 10) && exR x) w0 x := by
  intro v w1 hb hv
  obtain ⟨k, n, kids, p⟩ := x
  obtain ⟨y, c, rfl, hrow⟩ := hv
  have hA : Below w1.heap.size w1 (w1.alloc (ndO k n y kids.length c p)) := (Below.refl _ _).alloc (Nat.le_refl _) _
  have c1 := h (.agg #[.int .i64 k, .string ⟨n.toArray⟩, .slice y kids.length c, .int .i64 p]) _ (tr hb hA) ⟨y, c, rfl, hrow.below hA⟩
  have HA := Lib.hid hA
  simp only [List.append_toArray, List.cons_append, List.nil_append] at c1
  show Calls _ _ _ _ (Yes (decide (k = 10) && exR (.mk k n kids p)) w1)
  obtain ⟨B, hB⟩ : ∃ B, exR (.mk k n kids p) = B := ⟨_, rfl⟩
  rw [hB] at c1 ⊢
  simp only [List.append_toArray, List.cons_append, List.nil_append]
  unfold ndO at c1
  clear h hrow hB hb hA
  by_cases hk : k = 10
  · subst hk
    go_enter Tryz.func188, Tryz.ntmps188
    go_wp2_with fail
    refine c1.mono ?_
    clear c1
    rintro e w2 ⟨rfl, hb2⟩
    go_wp2_with fail
    go_ret
    exact ⟨by simp, tr HA.out hb2⟩
  · have Q : (k == 10) = false := beq_eq_false_iff_ne.2 hk
    have e : (decide (k = 10) && B) = false := by simp [hk]
    rw [e]
    clear hk e c1
    go_enter Tryz.func188, Tryz.ntmps188
    go_wp2_with fail
    go_ret
    exact ⟨rfl, HA.out⟩
set_option maxHeartbeats 4000000 in
set_option maxRecDepth 100000 in
theorem part_any (ok : Nat → Prop) (w0 : World) (k : Int) (n : List UInt8) (kids : List Nd) (p : Int) (hl : kids.length < 2 ^ 62) (h : KidsOk ok w0 kids) : OneQ 148 [] ok partR w0 (.mk k n kids p) := by
  intro v w1 hb hv
  obtain ⟨y, c, rfl, hrow⟩ := hv
  have hA : Below w1.heap.size w1 (w1.alloc (ndO k n y kids.length c p)) := (Below.refl _ _).alloc (Nat.le_refl _) _
  have e1 := enters_of Tryz.func147 (by kernel_rfl) rfl
  have e2 := enters_of Tryz.func52 (by kernel_rfl) rfl
  have e3 := enters_of Tryz.func188 (by kernel_rfl) rfl
  have hK := (h.below hb).below hA
  have c1 := all_any 147 e1 ok exR kids kids.length rfl hl y c _ (hrow.below hA) (fun x hx => (hK x hx).1)
  have c2 := all_any 52 e2 ok stR kids kids.length rfl hl y c _ (hrow.below hA) (fun x hx => (hK x hx).2.1)
  have c3 := all_any 188 e3 ok (fun x => decide (x.kind = 10) && exR x) kids kids.length rfl hl y c _ (hrow.below hA) (fun x hx => part1_any ok _ x (hK x hx).1)
  rw [← exsR_all] at c1
  rw [← stsR_all] at c2
  rw [← parsR_all] at c3
  have HA := Lib.hid hA
  show Calls _ _ _ _ (Yes (n.isEmpty && (if k = 0 then stsR kids else if k = 4 then parsR kids else exsR kids)) w1)
  simp only [List.append_toArray, List.cons_append, List.nil_append]
  unfold ndO at c1 c2 c3
  obtain ⟨B1, hB1⟩ : ∃ B, exsR kids = B := ⟨_, rfl⟩
  obtain ⟨B2, hB2⟩ : ∃ B, stsR kids = B := ⟨_, rfl⟩
  obtain ⟨B3, hB3⟩ : ∃ B, parsR kids = B := ⟨_, rfl⟩
  rw [hB1] at c1 ⊢
  rw [hB2] at c2 ⊢
  rw [hB3] at c3 ⊢
  clear h hrow hB1 hB2 hB3 hb hA hK
  by_cases hn : n = []
  · subst hn
    by_cases hk : k = 0
    · subst hk
      clear c1 c3
      go_enter Tryz.func148, Tryz.ntmps148
      go_wp2_with fail
      refine c2.mono ?_
      clear c2
      rintro e w2 ⟨rfl, hb2⟩
      go_wp2_with fail
      go_ret
      exact ⟨by simp, tr HA.out hb2⟩
    · have Q : (k == 0) = false := beq_eq_false_iff_ne.2 hk
      by_cases hk4 : k = 4
      · subst hk4
        clear c1 c2
        go_enter Tryz.func148, Tryz.ntmps148
        go_wp2_with fail
        refine c3.mono ?_
        clear c3
        rintro e w2 ⟨rfl, hb2⟩
        go_wp2_with fail
        go_ret
        exact ⟨by simp, tr HA.out hb2⟩
      · have Q4 : (k == 4) = false := beq_eq_false_iff_ne.2 hk4
        rw [if_neg hk, if_neg hk4]
        clear c2 c3 hk hk4
        go_enter Tryz.func148, Tryz.ntmps148
        go_wp2_with fail
        refine c1.mono ?_
        clear c1
        rintro e w2 ⟨rfl, hb2⟩
        go_wp2_with fail
        go_ret
        exact ⟨by simp, tr HA.out hb2⟩
  · have e : n.isEmpty = false := by simpa using hn
    rw [e, Bool.false_and]
    have Q : (n == []) = false := beq_eq_false_iff_ne.2 hn
    have Qd : ((k == 0) = true ∧ (k == 4) = false) ∨ ((k == 0) = false ∧ (k == 4) = true) ∨ ((k == 0) = false ∧ (k == 4) = false) := by
      by_cases h0 : k = 0
      · subst h0; exact .inl ⟨rfl, rfl⟩
      · by_cases h4 : k = 4
        · subst h4; exact .inr (.inl ⟨rfl, rfl⟩)
        · exact .inr (.inr ⟨beq_eq_false_iff_ne.2 h0, beq_eq_false_iff_ne.2 h4⟩)
    clear c1 c2 c3
    rcases Qd with ⟨Q0, Q4⟩ | ⟨Q0, Q4⟩ | ⟨Q0, Q4⟩
    all_goals (
      go_enter Tryz.func148, Tryz.ntmps148
      go_wp2_with fail
      go_ret
      exact ⟨rfl, HA.out⟩)
end Go.Proofs.YtpbkeamjdolpgaaGreatDoor
namespace Go.Proofs.YtpbkeamjdolpgaaGreatDoor
open Go.RowKit Go.Lib

/-! ### Where tokens stand -/
theorem skipB_take : ∀ (b : Bool) (l : List UInt8), skipB b (l.take (skipB b l)) = skipB b l
  | b, [] => by cases b <;> rfl
  | true, c :: r => by
    have h1 := skipB_take true r
    have h2 := skipB_take false r
    by_cases h : c = 10
    · rw [skipB, if_pos h, Nat.add_comm, List.take_succ_cons, skipB, if_pos h, h2, Nat.add_comm]
    · rw [skipB, if_neg h, Nat.add_comm, List.take_succ_cons, skipB, if_neg h, h1, Nat.add_comm]
  | false, c :: r => by
    have h1 := skipB_take true r
    have h2 := skipB_take false r
    have e0 : skipB false (c :: r) = if isBl c then 1 + skipB false r else if c = 47 ∧ r.head? = some 47 then 1 + skipB true r else 0 := by rw [skipB]
    have e1 : ∀ q, skipB false (c :: q) = if isBl c then 1 + skipB false q else if c = 47 ∧ q.head? = some 47 then 1 + skipB true q else 0 := fun q => by rw [skipB]
    rw [e0]
    by_cases hb : isBl c = true
    · rw [if_pos hb, Nat.add_comm, List.take_succ_cons, e1, if_pos hb, h2, Nat.add_comm]
    · rw [if_neg hb]
      by_cases h : c = 47 ∧ r.head? = some 47
      · rw [if_pos h, Nat.add_comm, List.take_succ_cons, e1, if_neg hb]
        have hp : 0 < skipB true r := by
          cases r with
          | nil => simp at h
          | cons d r => unfold skipB; split <;> omega
        have hh : (r.take (skipB true r)).head? = r.head? := by
          cases r with
          | nil => simp
          | cons d r => obtain ⟨m, hm⟩ : ∃ m, skipB true (d :: r) = m + 1 := ⟨skipB true (d :: r) - 1, by omega⟩; rw [hm]; rfl
        rw [hh, if_pos h, h1, Nat.add_comm]
      · rw [if_neg h]
        rfl

def PlOk (s : List UInt8) : Nat → List Tk → Prop
  | e, [] => skipL (s.drop e) = (s.drop e).length
  | e, t :: ts => e ≤ t.2.2 ∧ skipL ((s.drop e).take (t.2.2 - e)) = t.2.2 - e ∧ t.2.1 ≠ [] ∧ t.2.2 + t.2.1.length ≤ s.length ∧ (s.drop t.2.2).take t.2.1.length = t.2.1 ∧ PlOk s (t.2.2 + t.2.1.length) ts

theorem toksL_places (s : List UInt8) : ∀ (f n e : Nat) (ts : List Tk), (s.drop e).length ≤ f → e ≤ s.length →
    toksL f n (e + skipL (s.drop e)) (s.drop (e + skipL (s.drop e))) = .ok ts → PlOk s e ts
  | 0, n, e, ts, hf, he, h => by
    simp only [toksL, Except.ok.injEq] at h
    subst h
    have : s.drop e = [] := List.eq_nil_of_length_eq_zero (by omega)
    unfold PlOk
    rw [this]
    rfl
  | f + 1, n, e, ts, hf, he, h => by
    have hsk : skipL (s.drop e) ≤ (s.drop e).length := skipB_le _ _
    have htk : skipL ((s.drop e).take (skipL (s.drop e))) = skipL (s.drop e) := skipB_take false _
    obtain ⟨q, hq⟩ : ∃ q, skipL (s.drop e) = q := ⟨_, rfl⟩
    rw [hq] at h hsk htk
    rw [List.length_drop] at hsk hf
    by_cases hl : s.drop (e + q) = []
    · rw [toksL, if_pos hl] at h
      cases h
      unfold PlOk
      rw [hq, List.length_drop]
      have := congrArg List.length hl
      simp at this
      omega
    · rw [toksL_step _ _ _ _ hl] at h
      have hw := wordL_le (s.drop (e + q))
      rw [List.length_drop] at hw
      obtain ⟨m, hm⟩ : ∃ m, (wordL (s.drop (e + q))).2 = m := ⟨_, rfl⟩
      obtain ⟨k, hk⟩ : ∃ k, (wordL (s.drop (e + q))).1 = k := ⟨_, rfl⟩
      rw [hm, hk] at h
      rw [hm] at hw
      by_cases h0 : m = 0
      · rw [if_pos h0] at h; cases h
      · rw [if_neg h0] at h
        by_cases h1 : n = 4096
        · rw [if_pos h1] at h; cases h
        · rw [if_neg h1, List.drop_drop] at h
          have hdd : ∀ x, (s.drop (e + q)).drop x = s.drop (e + q + x) := fun x => by rw [List.drop_drop]
          rw [hdd] at h
          obtain ⟨X, hX⟩ : ∃ X, toksL f (n + 1) (e + q + m + skipL (s.drop (e + q + m))) (s.drop (e + q + (m + skipL (s.drop (e + q + m))))) = X := ⟨_, rfl⟩
          rw [hX] at h
          cases X with
          | error x => cases h
          | ok us =>
            cases h
            have hlen : ((s.drop (e + q)).take m).length = m := by rw [List.length_take, List.length_drop]; omega
            have ih := toksL_places s f (n + 1) (e + q + m) us (by rw [List.length_drop]; omega) (by omega) (by rw [← hX]; congr 2; omega)
            unfold PlOk
            refine ⟨by simp only; omega, ?_, ?_, ?_, ?_, ?_⟩
            · simp only
              rw [show e + q - e = q by omega]
              exact htk
            · simp only
              intro h2
              rw [h2] at hlen
              simp at hlen
              omega
            · simp only
              rw [hlen]
              omega
            · simp only
              rw [hlen]
            · simp only
              rw [hlen]
              exact ih
theorem tokensL_places (s : List UInt8) (ts : List Tk) (h : tokensL s = .ok ts) : PlOk s 0 ts := by
  unfold tokensL at h
  split at h
  · cases h
  · have := toksL_places s s.length 0 0 ts (by simp) (Nat.zero_le _) (by simpa using h)
    exact this
theorem toksL_len : ∀ (f n p : Nat) (l : List UInt8) (ts : List Tk), n ≤ 4096 → toksL f n p l = .ok ts → n + ts.length ≤ 4096
  | 0, n, p, l, ts, hn, h => by
    simp only [toksL, Except.ok.injEq] at h
    subst h
    simpa using hn
  | f + 1, n, p, l, ts, hn, h => by
    by_cases hl : l = []
    · rw [toksL, if_pos hl] at h
      cases h
      simpa using hn
    · rw [toksL_step _ _ _ _ hl] at h
      by_cases h0 : (wordL l).2 = 0
      · rw [if_pos h0] at h; cases h
      · rw [if_neg h0] at h
        by_cases h1 : n = 4096
        · rw [if_pos h1] at h; cases h
        · rw [if_neg h1] at h
          obtain ⟨X, hX⟩ : ∃ X, toksL f (n + 1) (p + (wordL l).2 + skipL (l.drop (wordL l).2)) (l.drop ((wordL l).2 + skipL (l.drop (wordL l).2))) = X := ⟨_, rfl⟩
          rw [hX] at h
          cases X with
          | error x => cases h
          | ok us =>
            cases h
            have := toksL_len f (n + 1) _ _ us (by omega) hX
            simp only [List.length_cons]
            omega
theorem tokensL_len (s : List UInt8) (ts : List Tk) (h : tokensL s = .ok ts) : ts.length ≤ 4096 := by
  unfold tokensL at h
  split at h
  · cases h
  · have := toksL_len _ _ _ _ _ (Nat.zero_le _) h
    omega
end Go.Proofs.YtpbkeamjdolpgaaGreatDoor
namespace Go.Proofs.YtpbkeamjdolpgaaGreatDoor
open Go.RowKit Go.Lib

theorem dec_app (l : List UInt8) (c : UInt8) (r : List UInt8) (hl : l ≠ []) (hc : c.toNat < 128) : dec (l ++ c :: r) = dec l := by
  have h2 : ¬ c.toNat / 64 = 2 := by omega
  unfold dec Lib.decodeN bt
  match l, hl with
  | [a], _ => simp [h2]
  | [a, b], _ => simp [h2]
  | [a, b, d], _ => simp [h2]
  | a :: b :: d :: e :: q, _ =>
    have e1 : (a :: b :: d :: e :: q ++ c :: r).length = q.length + 4 + (r.length + 1) := by simp; omega
    have e2 : (a :: b :: d :: e :: q).length = q.length + 4 := by simp
    rw [e1, e2]
    have g1 : 1 < q.length + 4 + (r.length + 1) := by omega
    have g2 : 2 < q.length + 4 + (r.length + 1) := by omega
    have g3 : 3 < q.length + 4 + (r.length + 1) := by omega
    have g4 : 1 < q.length + 4 := by omega
    have g5 : 2 < q.length + 4 := by omega
    have g6 : 3 < q.length + 4 := by omega
    simp [g1, g2, g3, g4, g5, g6]
theorem dec_small (c : UInt8) (r : List UInt8) (hc : c.toNat < 128) : dec (c :: r) = (c.toNat, 1) := by
  rcases dec_shape (c :: r) with ⟨_, h⟩ | ⟨h, _⟩
  · exact h
  · have : bt (c :: r) 0 = c.toNat := rfl
    omega
theorem runL_app (p : Nat → Nat → Bool) (c : UInt8) (r : List UInt8) (hc : c.toNat < 128) (hp : ∀ j, p j c.toNat = false) : ∀ (f i : Nat) (l : List UInt8), l.length < f → runL p f i (l ++ c :: r) = runL p f i l
  | 0, i, l, h => by omega
  | f + 1, i, [], h => by
    rw [List.nil_append, runL_nil, runL, if_neg (by simp)]
    have hb : badL (c :: r) = false := by unfold badL; rw [dec_small c r hc]; simp; omega
    rw [hb, if_neg (by simp), dec_small c r hc]
    simp only
    rw [hp, if_neg (by simp)]
  | f + 1, i, a :: l, h => by
    have hd := dec_app (a :: l) c r (by simp) hc
    have h1 := dec_le (a :: l) (by simp)
    have h2 := dec_ge1 (a :: l)
    have hb : badL (a :: l ++ c :: r) = badL (a :: l) := by unfold badL; rw [hd]
    rw [runL, if_neg (show ¬ (a :: l ++ c :: r) = [] by simp), runL, if_neg (show ¬ (a :: l) = [] by simp), hb, hd]
    have hdr : (a :: l ++ c :: r).drop (dec (a :: l)).2 = (a :: l).drop (dec (a :: l)).2 ++ c :: r := List.drop_append_of_le_length h1
    rw [hdr, runL_app p c r hc hp f _ _ (by rw [List.length_drop]; omega)]
theorem pre_app (l : List UInt8) (c : UInt8) (r : List UInt8) (hl : l ≠ []) (t : List UInt8) (ht : t.length ≤ 2) (hc : t[1]? ≠ some c) : Lib.hasPrefix (l ++ c :: r) t = Lib.hasPrefix l t := by
  unfold Lib.hasPrefix
  match l, hl, t, ht, hc with
  | a :: l, _, [], _, _ => rfl
  | a :: l, _, [x], _, _ => simp [List.isPrefixOf]
  | [a], _, [x, y], _, hc =>
    have : ¬ y = c := fun h => hc (by simp [h])
    simp [List.isPrefixOf, this]
  | a :: b :: l, _, [x, y], _, _ => simp [List.isPrefixOf]
theorem signIn_app (l : List UInt8) (c : UInt8) (r : List UInt8) (hl : l ≠ []) : ∀ ts : List (List UInt8), (∀ t ∈ ts, t.length ≤ 2 ∧ t[1]? ≠ some c) → signIn (l ++ c :: r) ts = signIn l ts
  | [], _ => rfl
  | t :: ts, h => by
    have h1 := h t (List.mem_cons_self ..)
    rw [signIn, signIn, pre_app l c r hl t h1.1 h1.2, signIn_app l c r hl ts (fun u hu => h u (List.mem_cons_of_mem _ hu))]
def scanL (f n p : Nat) (l : List UInt8) : Except Flt (List Tk) := toksL f n (p + skipL l) (l.drop (skipL l))
theorem PlOk_at (s : List UInt8) : ∀ (ts : List Tk) (e i : Nat) (u : Tk), PlOk s e ts → ts[i]? = some u → u.2.2 + u.2.1.length ≤ s.length
  | [], e, i, u, _, h => by simp at h
  | t :: ts, e, 0, u, hp, h => by
    simp at h
    subst h
    exact hp.2.2.2.1
  | t :: ts, e, i + 1, u, hp, h => PlOk_at s ts _ i u hp.2.2.2.2.2 (by simpa using h)
theorem tokensL_at (s : List UInt8) (ts : List Tk) (h : tokensL s = .ok ts) (i : Nat) (u : Tk) (hu : ts[i]? = some u) : u.2.2 + u.2.1.length ≤ s.length :=
  PlOk_at s ts 0 i u (tokensL_places s ts h) hu
end Go.Proofs.YtpbkeamjdolpgaaGreatDoor
namespace Go.Proofs.YtpbkeamjdolpgaaGreatDoor
open Go.RowKit Go.Lib

/-! ### A token cut out of a text is that token -/
theorem decN_cut (n m b0 b1 b2 b3 : Nat) (c1 c2 c3 : Nat) (h : (decodeN n b0 b1 b2 b3).2 ≤ m) (hb : decodeN n b0 b1 b2 b3 ≠ (65533, 1)) (hn : m ≤ n)
    (e1 : 1 < m → c1 = b1) (e2 : 2 < m → c2 = b2) (e3 : 3 < m → c3 = b3) : decodeN m b0 c1 c2 c3 = decodeN n b0 b1 b2 b3 := by
  unfold decodeN at h hb ⊢
  by_cases k0 : b0 < 128
  · rw [if_pos k0, if_pos k0]
  · rw [if_neg k0] at h hb ⊢
    rw [if_neg k0]
    by_cases k1 : b0 / 32 = 6 ∧ (1 < n ∧ b1 / 64 = 2)
    · rw [if_pos k1] at h hb ⊢
      by_cases v : b0 % 32 * 64 + b1 % 64 ≥ 128
      · rw [if_pos v] at h ⊢
        have h2 : 2 ≤ m := h
        have E1 := e1 (by omega)
        subst E1
        rw [if_pos ⟨k1.1, by omega, k1.2.2⟩, if_pos v]
      · rw [if_neg v] at hb
        exact absurd rfl hb
    · rw [if_neg k1] at h hb ⊢
      rw [if_neg (fun q => k1 ⟨q.1, by omega, by rw [← e1 q.2.1]; exact q.2.2⟩)]
      by_cases k2 : b0 / 16 = 14 ∧ (1 < n ∧ b1 / 64 = 2) ∧ (2 < n ∧ b2 / 64 = 2)
      · rw [if_pos k2] at h hb ⊢
        by_cases v : b0 % 16 * 4096 + b1 % 64 * 64 + b2 % 64 ≥ 2048 ∧ (b0 % 16 * 4096 + b1 % 64 * 64 + b2 % 64 < 55296 ∨ (57344 ≤ b0 % 16 * 4096 + b1 % 64 * 64 + b2 % 64 ∧ b0 % 16 * 4096 + b1 % 64 * 64 + b2 % 64 ≤ 1114111))
        · rw [if_pos v] at h ⊢
          have h3 : 3 ≤ m := h
          have E1 := e1 (by omega)
          have E2 := e2 (by omega)
          subst E1 E2
          rw [if_pos ⟨k2.1, ⟨by omega, k2.2.1.2⟩, by omega, k2.2.2.2⟩, if_pos v]
        · rw [if_neg v] at hb
          exact absurd rfl hb
      · rw [if_neg k2] at h hb ⊢
        rw [if_neg (fun q => k2 ⟨q.1, ⟨by omega, by rw [← e1 q.2.1.1]; exact q.2.1.2⟩, by omega, by rw [← e2 q.2.2.1]; exact q.2.2.2⟩)]
        by_cases k3 : b0 / 8 = 30 ∧ (1 < n ∧ b1 / 64 = 2) ∧ (2 < n ∧ b2 / 64 = 2) ∧ (3 < n ∧ b3 / 64 = 2)
        · rw [if_pos k3] at h hb ⊢
          by_cases v : b0 % 8 * 262144 + b1 % 64 * 4096 + b2 % 64 * 64 + b3 % 64 ≥ 65536 ∧ (b0 % 8 * 262144 + b1 % 64 * 4096 + b2 % 64 * 64 + b3 % 64 < 55296 ∨ (57344 ≤ b0 % 8 * 262144 + b1 % 64 * 4096 + b2 % 64 * 64 + b3 % 64 ∧ b0 % 8 * 262144 + b1 % 64 * 4096 + b2 % 64 * 64 + b3 % 64 ≤ 1114111))
          · rw [if_pos v] at h ⊢
            have h4 : 4 ≤ m := h
            have E1 := e1 (by omega)
            have E2 := e2 (by omega)
            have E3 := e3 (by omega)
            subst E1 E2 E3
            rw [if_pos ⟨k3.1, ⟨by omega, k3.2.1.2⟩, ⟨by omega, k3.2.2.1.2⟩, by omega, k3.2.2.2.2⟩, if_pos v]
          · rw [if_neg v] at hb
            exact absurd rfl hb
        · rw [if_neg k3] at hb
          exact absurd rfl hb
theorem bt_take (l : List UInt8) (m k : Nat) (h : k < m) : bt (l.take m) k = bt l k := by
  unfold bt
  rw [List.getElem?_take, if_pos h]
theorem dec_take (l : List UInt8) (m : Nat) (hb : badL l = false) (h : (dec l).2 ≤ m) : dec (l.take m) = dec l := by
  by_cases hm : l.length ≤ m
  · rw [List.take_of_length_le hm]
  · have h1 := dec_ge1 l
    have hne : dec l ≠ (65533, 1) := by
      intro h2
      unfold badL at hb
      rw [h2] at hb
      simp at hb
    have hlen : (l.take m).length = m := by rw [List.length_take]; omega
    unfold dec at h hne ⊢
    rw [hlen, bt_take l m 0 (by unfold dec at h1; omega)]
    exact decN_cut l.length m _ _ _ _ _ _ _ h hne (by omega) (fun q => bt_take l m 1 q) (fun q => bt_take l m 2 q) (fun q => bt_take l m 3 q)
theorem bad_take (l : List UInt8) (m : Nat) (hb : badL l = false) (h : (dec l).2 ≤ m) : badL (l.take m) = false := by
  unfold badL at hb ⊢
  rw [dec_take l m (by unfold badL; exact hb) h]
  exact hb
theorem runL_take (p : Nat → Nat → Bool) : ∀ (f g i : Nat) (l : List UInt8), l.length ≤ f → runL p f i l ≤ g → runL p g i (l.take (runL p f i l)) = runL p f i l
  | 0, g, i, l, hf, _ => by
    have : l = [] := List.eq_nil_of_length_eq_zero (by omega)
    subst this
    rw [runL_nil, List.take_nil, runL_nil]
  | f + 1, g, i, l, hf, hg => by
    by_cases hl : l = []
    · subst hl
      rw [runL_nil, List.take_nil, runL_nil]
    · have e : runL p (f + 1) i l = if badL l then 0 else if p i (dec l).1 then (dec l).2 + runL p f (i + (dec l).2) (l.drop (dec l).2) else 0 := by
        rw [runL, if_neg hl]
      by_cases hb : badL l = true
      · rw [if_pos hb] at e
        rw [e, List.take_zero, runL_nil]
      · rw [if_neg hb] at e
        by_cases hp : p i (dec l).1 = true
        · rw [if_pos hp] at e
          have h1 := dec_ge1 l
          have h2 := dec_le l hl
          obtain ⟨K, hK⟩ : ∃ K, runL p f (i + (dec l).2) (l.drop (dec l).2) = K := ⟨_, rfl⟩
          have ih := fun g hg => runL_take p f g (i + (dec l).2) (l.drop (dec l).2) (by rw [List.length_drop]; omega) hg
          rw [hK] at e ih
          rw [e] at hg ⊢
          obtain ⟨g', rfl⟩ : ∃ g', g = g' + 1 := ⟨g - 1, by omega⟩
          have hb2 : badL l = false := by simpa using hb
          have ht : l.take ((dec l).2 + K) ≠ [] := by
            intro h
            have h3 := congrArg List.length h
            rw [List.length_take] at h3
            simp only [List.length_nil] at h3
            have : 0 < l.length := List.length_pos_iff.2 hl
            omega
          rw [runL, if_neg ht, bad_take l _ hb2 (by omega), dec_take l _ hb2 (by omega), if_neg (by simp), if_pos hp]
          have hd : (l.take ((dec l).2 + K)).drop (dec l).2 = (l.drop (dec l).2).take K := by
            rw [List.drop_take]
            congr 1
            omega
          rw [hd, ih g' (by omega)]
        · rw [if_neg hp] at e
          rw [e, List.take_zero, runL_nil]
theorem nameL_take (l : List UInt8) : nameL (l.take (nameL l)) = nameL l := by
  unfold nameL
  have hle := runL_le isNm l.length 0 l
  have h := runL_take isNm l.length (l.take (runL isNm l.length 0 l)).length 0 l (Nat.le_refl _) (by rw [List.length_take]; omega)
  exact h
theorem nameL_first (l : List UInt8) (h : bt l 0 < 128) (hl : l ≠ []) : (nameL l = 0) ↔ isNm 0 (bt l 0) = false := by
  have hd : dec l = (bt l 0, 1) := by
    rcases dec_shape l with ⟨_, e⟩ | ⟨k, _⟩
    · exact e
    · omega
  have hb : badL l = false := by
    unfold badL
    rw [hd]
    have : (bt l 0 == 65533) = false := beq_eq_false_iff_ne.2 (by omega)
    simp [this]
  obtain ⟨n, hn⟩ : ∃ n, l.length = n + 1 := ⟨l.length - 1, by have := List.length_pos_iff.2 hl; omega⟩
  unfold nameL
  rw [hn, runL, if_neg hl, hb, hd, if_neg (by simp)]
  dsimp only
  cases isNm 0 (bt l 0)
  · simp
  · simp
theorem nameL_zero_take (l : List UInt8) (m : Nat) (h : bt l 0 < 128) (hz : nameL l = 0) : nameL (l.take m) = 0 := by
  by_cases hl : l.take m = []
  · rw [hl]
    exact runL_nil _ _ _
  · have hm : 0 < m := by
      rcases Nat.eq_zero_or_pos m with h0 | h0
      · subst h0; exact absurd (List.take_zero) hl
      · exact h0
    have hl2 : l ≠ [] := fun h2 => hl (by rw [h2, List.take_nil])
    have h0 := bt_take l m 0 hm
    rw [nameL_first _ (by rw [h0]; exact h) hl, h0]
    exact (nameL_first l h hl2).1 hz
theorem digs_take : ∀ (l : List UInt8) (m : Nat), digs (l.take m) = min m (digs l)
  | [], m => by simp [digs]
  | c :: r, 0 => by simp [digs]
  | c :: r, m + 1 => by
    have ih := digs_take r m
    unfold digs at ih ⊢
    rw [List.take_succ_cons, List.takeWhile_cons, List.takeWhile_cons]
    cases isDb c
    · simp
    · simp only [if_true, List.length_cons, ih]
      omega
theorem numL_take (l : List UInt8) : numL (l.take (numL l)) = numL l := by
  by_cases h0 : digs l = 0
  · have e : numL l = 0 := by unfold numL; rw [if_pos h0]
    rw [e, List.take_zero]
    rfl
  · by_cases h1 : (l.drop (digs l)).head? = some 46 ∧ 0 < digs (l.drop (digs l + 1))
    · have e : numL l = digs l + (1 + digs (l.drop (digs l + 1))) := by unfold numL; rw [if_neg h0, if_pos h1]
      rw [e]
      obtain ⟨d, hd⟩ : ∃ d, digs l = d := ⟨_, rfl⟩
      rw [hd] at h1 h0 ⊢
      obtain ⟨k, hk⟩ : ∃ k, digs (l.drop (d + 1)) = k := ⟨_, rfl⟩
      rw [hk] at h1 ⊢
      have e1 : digs (l.take (d + (1 + k))) = d := by rw [digs_take, hd]; omega
      have e2 : (l.take (d + (1 + k))).drop (d + 1) = (l.drop (d + 1)).take k := by
        rw [List.drop_take]
        congr 1
        omega
      have e3 : digs ((l.take (d + (1 + k))).drop (d + 1)) = k := by rw [e2, digs_take, hk]; omega
      have e4 : ((l.take (d + (1 + k))).drop d).head? = some 46 := by
        rw [List.drop_take, show d + (1 + k) - d = k + 1 by omega]
        have h2 := h1.1
        cases hx : l.drop d with
        | nil => rw [hx] at h2; simp at h2
        | cons a b => rw [hx] at h2; simpa using h2
      unfold numL
      rw [e1, if_neg h0, e3, if_pos ⟨e4, h1.2⟩]
    · have e : numL l = digs l := by unfold numL; rw [if_neg h0, if_neg h1]
      rw [e]
      have e1 : digs (l.take (digs l)) = digs l := by rw [digs_take]; omega
      unfold numL
      rw [e1, if_neg h0, if_neg]
      rintro ⟨h2, _⟩
      rw [List.drop_take, Nat.sub_self, List.take_zero] at h2
      simp at h2
theorem signIn_some (l : List UInt8) : ∀ ts : List (List UInt8), 0 < signIn l ts → ∃ t ∈ ts, Lib.hasPrefix l t = true ∧ signIn l ts = t.length
  | [], h => by simp [signIn] at h
  | t :: r, h => by
    unfold signIn at h ⊢
    by_cases hp : Lib.hasPrefix l t = true
    · rw [if_pos hp] at h ⊢
      exact ⟨t, List.mem_cons_self, hp, rfl⟩
    · rw [if_neg hp] at h ⊢
      obtain ⟨u, h1, h2, h3⟩ := signIn_some l r h
      exact ⟨u, List.mem_cons_of_mem _ h1, h2, h3⟩
theorem signs_self : ∀ t ∈ signs, signL t = t.length ∧ bt t 0 < 128 ∧ t ≠ [] := by decide
theorem take_prefix (l t : List UInt8) (h : Lib.hasPrefix l t = true) : l.take t.length = t :=
  (List.prefix_iff_eq_take.1 (List.isPrefixOf_iff_prefix.1 h)).symm
theorem signL_take (l : List UInt8) (h : 0 < signL l) : signL (l.take (signL l)) = signL l ∧ bt l 0 < 128 := by
  obtain ⟨t, h1, h2, h3⟩ := signIn_some l signs h
  have hs := signs_self t h1
  have e : l.take (signL l) = t := by
    have : signL l = t.length := h3
    rw [this]
    exact take_prefix l t h2
  refine ⟨?_, ?_⟩
  · rw [e, hs.1]
    exact h3.symm
  · rw [← bt_take l (signL l) 0 h, e]
    exact hs.2.1
theorem digs_first (l : List UInt8) (h : 0 < digs l) : bt l 0 < 128 := by
  unfold digs at h
  cases l with
  | nil => simp at h
  | cons c r =>
    rw [List.takeWhile_cons] at h
    cases hc : isDb c
    · rw [hc] at h; simp at h
    · unfold isDb at hc
      simp only [Bool.and_eq_true, decide_eq_true_eq] at hc
      simp [bt]
      omega
theorem numL_pos (l : List UInt8) (h : 0 < numL l) : 0 < digs l := by
  unfold numL at h
  by_cases h0 : digs l = 0
  · rw [if_pos h0] at h; omega
  · omega
theorem wordL_take (l : List UInt8) (h : 0 < (wordL l).2) : wordL (l.take (wordL l).2) = wordL l := by
  by_cases h1 : 0 < nameL l
  · have e : wordL l = (0, nameL l) := by unfold wordL; rw [if_pos h1]
    rw [e]
    unfold wordL
    rw [nameL_take, if_pos h1]
  · by_cases h2 : 0 < numL l
    · have e : wordL l = (1, numL l) := by unfold wordL; rw [if_neg h1, if_pos h2]
      rw [e]
      unfold wordL
      rw [nameL_zero_take l _ (digs_first l (numL_pos l h2)) (by omega), if_neg (by omega), numL_take, if_pos h2]
    · by_cases h3 : 0 < signL l
      · have e : wordL l = (2, signL l) := by unfold wordL; rw [if_neg h1, if_neg h2, if_pos h3]
        have hs := signL_take l h3
        rw [e]
        unfold wordL
        have hd : digs l = 0 := by
          rcases Nat.eq_zero_or_pos (digs l) with h4 | h4
          · exact h4
          · exfalso
            apply h2
            unfold numL
            rw [if_neg (by omega)]
            split <;> omega
        have hn : numL (l.take (signL l)) = 0 := by
          unfold numL
          rw [if_pos (by rw [digs_take, hd]; omega)]
        rw [nameL_zero_take l _ hs.2 (by omega), if_neg (by omega), hn, if_neg (by omega), hs.1, if_pos h3]
      · have e : wordL l = (0, 0) := by unfold wordL; rw [if_neg h1, if_neg h2, if_neg h3]
        rw [e] at h
        exact absurd h (by decide)
theorem skip_cons (c : UInt8) (r : List UInt8) : skipB false (c :: r) = if isBl c then 1 + skipB false r else if c = 47 ∧ r.head? = some 47 then 1 + skipB true r else 0 := by rw [skipB]
theorem skip_zero (c : UInt8) (r : List UInt8) : skipB false (c :: r) = 0 ↔ isBl c = false ∧ ¬ (c = 47 ∧ r.head? = some 47) := by
  rw [skip_cons]
  cases hb : isBl c
  · by_cases h : c = 47 ∧ r.head? = some 47
    · rw [if_neg (by simp), if_pos h]
      constructor
      · intro h2; omega
      · intro h2; exact absurd h h2.2
    · rw [if_neg (by simp), if_neg h]
      simp [h]
  · rw [if_pos rfl]
    constructor
    · intro h2; omega
    · intro h2; simp at h2
theorem skipL_take0 (l : List UInt8) (m : Nat) (h : skipL l = 0) : skipL (l.take m) = 0 := by
  unfold skipL at h ⊢
  match l, m with
  | [], m => rw [List.take_nil]; rfl
  | c :: r, 0 => rw [List.take_zero]; rfl
  | c :: r, m + 1 =>
    rw [List.take_succ_cons, skip_zero]
    rw [skip_zero] at h
    refine ⟨h.1, fun h2 => h.2 ⟨h2.1, ?_⟩⟩
    have h3 := h2.2
    cases r with
    | nil => simp at h3
    | cons a b =>
      cases m with
      | zero => simp at h3
      | succ m => simpa using h3
theorem skip_app0 (c : UInt8) (r l : List UInt8) (hc : c ≠ 47) (hl : l ≠ []) (h : skipL l = 0) : skipL (l ++ c :: r) = 0 := by
  unfold skipL at h ⊢
  match l, hl with
  | a :: b, _ =>
    rw [List.cons_append, skip_zero]
    rw [skip_zero] at h
    refine ⟨h.1, fun h2 => h.2 ⟨h2.1, ?_⟩⟩
    have h3 := h2.2
    cases b with
    | nil => simp at h3; exact absurd h3 hc
    | cons x y => simpa using h3
theorem skip_idem : ∀ (b : Bool) (l : List UInt8), skipB false (l.drop (skipB b l)) = 0
  | b, [] => by cases b <;> simp [skipB]
  | true, c :: r => by
    have h1 := skip_idem true r
    have h2 := skip_idem false r
    have e : skipB true (c :: r) = if c = 10 then 1 + skipB false r else 1 + skipB true r := by rw [skipB]
    rw [e]
    by_cases h : c = 10
    · rw [if_pos h, Nat.add_comm 1, List.drop_succ_cons]; exact h2
    · rw [if_neg h, Nat.add_comm 1, List.drop_succ_cons]; exact h1
  | false, c :: r => by
    have h1 := skip_idem true r
    have h2 := skip_idem false r
    rw [skip_cons]
    by_cases hb : isBl c = true
    · rw [if_pos hb, Nat.add_comm 1, List.drop_succ_cons]; exact h2
    · rw [if_neg hb]
      by_cases h : c = 47 ∧ r.head? = some 47
      · rw [if_pos h, Nat.add_comm 1, List.drop_succ_cons]; exact h1
      · rw [if_neg h, List.drop_zero, skip_zero]
        exact ⟨by simpa using hb, h⟩
theorem toksL_ok : ∀ (f n p : Nat) (l : List UInt8) (ts : List Tk), skipL l = 0 → toksL f n p l = .ok ts → ∀ t ∈ ts, wordL t.2.1 = (t.1, t.2.1.length) ∧ 0 < t.2.1.length ∧ skipL t.2.1 = 0
  | 0, n, p, l, ts, _, h, t, ht => by
    rw [toksL] at h
    cases h
    simp at ht
  | f + 1, n, p, l, ts, hs, h, t, ht => by
    by_cases hl : l = []
    · rw [toksL, if_pos hl] at h
      cases h
      simp at ht
    · rw [toksL_step _ _ _ _ hl] at h
      by_cases h0 : (wordL l).2 = 0
      · rw [if_pos h0] at h; cases h
      · rw [if_neg h0] at h
        by_cases h1 : n = 4096
        · rw [if_pos h1] at h; cases h
        · rw [if_neg h1] at h
          have hsk : skipL (l.drop ((wordL l).2 + skipL (l.drop (wordL l).2))) = 0 := by
            rw [← List.drop_drop]
            exact skip_idem false _
          have ih := toksL_ok f (n + 1) (p + (wordL l).2 + skipL (l.drop (wordL l).2)) (l.drop ((wordL l).2 + skipL (l.drop (wordL l).2)))
          cases hr : toksL f (n + 1) (p + (wordL l).2 + skipL (l.drop (wordL l).2)) (l.drop ((wordL l).2 + skipL (l.drop (wordL l).2))) with
          | error e => rw [hr] at h; cases h
          | ok us =>
            rw [hr] at h
            cases h
            rcases List.mem_cons.1 ht with rfl | ht2
            · have hw := wordL_le l
              have hlen : (l.take (wordL l).2).length = (wordL l).2 := by rw [List.length_take]; omega
              refine ⟨?_, by rw [hlen]; omega, skipL_take0 l _ hs⟩
              rw [wordL_take l (by omega), hlen]
            · exact ih us hsk hr t ht2
end Go.Proofs.YtpbkeamjdolpgaaGreatDoor
namespace Go.Proofs.YtpbkeamjdolpgaaGreatDoor
open Go.RowKit Go.Lib

abbrev Wd := Nat × List UInt8
def kt (t : Tk) : Wd := (t.1, t.2.1)
def Sc (l : List UInt8) (ws : List Wd) : Prop := ∀ f n p, n ≤ 4096 → l.length ≤ f → (∃ ts, scanL f n p l = .ok ts ∧ ts.map kt = ws) ∨ (4096 < n + ws.length ∧ ∃ e, scanL f n p l = .error e)
theorem Sc.nil : Sc [] [] := by
  intro f n p _ _
  refine .inl ⟨[], ?_, rfl⟩
  unfold scanL
  cases f <;> simp [toksL]
theorem Sc.tok {w r : List UInt8} {k : Nat} {ws : List Wd} (hw : wordL (w ++ r) = (k, w.length)) (hne : w ≠ []) (hs : skipL (w ++ r) = 0) (h : Sc r ws) : Sc (w ++ r) ((k, w) :: ws) := by
  intro f n p hn hf
  have hlen := List.length_pos_iff.2 hne
  rw [List.length_append] at hf
  obtain ⟨g, rfl⟩ : ∃ g, f = g + 1 := ⟨f - 1, by omega⟩
  unfold scanL
  rw [hs, List.drop_zero, toksL_step _ _ _ _ (by simp [hne]), hw]
  dsimp only
  rw [if_neg (by omega), List.drop_left, List.take_left, Nat.add_zero]
  by_cases h1 : n = 4096
  · rw [if_pos h1]
    exact .inr ⟨by simp; omega, _, rfl⟩
  · rw [if_neg h1]
    have e : (w ++ r).drop (w.length + skipL r) = r.drop (skipL r) := by rw [← List.drop_drop, List.drop_left]
    rw [e]
    rcases h g (n + 1) (p + w.length) (by omega) (by omega) with ⟨ts, h2, h3⟩ | ⟨h2, e, h3⟩
    · unfold scanL at h2
      rw [h2]
      exact .inl ⟨_, rfl, by simp [kt, h3]⟩
    · unfold scanL at h3
      rw [h3]
      exact .inr ⟨by simp; omega, _, rfl⟩
theorem Sc.all {l : List UInt8} {ws : List Wd} (h : Sc l ws) (hl : l.length ≤ 65536) (hw : ws.length ≤ 4096) : ∃ ts, tokensL l = .ok ts ∧ ts.map kt = ws := by
  unfold tokensL
  rw [if_neg (by omega)]
  have e : scanL l.length 0 0 l = toksL l.length 0 (skipL l) (l.drop (skipL l)) := by unfold scanL; rw [Nat.zero_add]
  rw [← e]
  rcases h l.length 0 0 (by omega) (Nat.le_refl _) with h2 | ⟨h2, _⟩
  · exact h2
  · omega

/-! ### What ends a word -/
def enC (c : UInt8) : Bool := isBl c || c == 40 || c == 41 || c == 44 || c == 59 || c == 91 || c == 93
def En (l : List UInt8) : Prop := ∀ c, l.head? = some c → enC c = true
theorem en_cases {c : UInt8} (h : enC c = true) : c = 32 ∨ c = 9 ∨ c = 10 ∨ c = 13 ∨ c = 40 ∨ c = 41 ∨ c = 44 ∨ c = 59 ∨ c = 91 ∨ c = 93 := by
  unfold enC isBl at h
  simpa [or_assoc] using h
theorem en_small {c : UInt8} (h : enC c = true) : c.toNat < 128 := by
  rcases en_cases h with rfl | rfl | rfl | rfl | rfl | rfl | rfl | rfl | rfl | rfl <;> decide
theorem en_name {c : UInt8} (h : enC c = true) (j : Nat) : isNm j c.toNat = false := by
  have h1 : (c.toNat == 95) = false ∧ Lib.isLetterU (c.toNat : Int) = false ∧ Lib.isDigitU (c.toNat : Int) = false := by
    rcases en_cases h with rfl | rfl | rfl | rfl | rfl | rfl | rfl | rfl | rfl | rfl <;> exact ⟨by decide, by kernel_rfl, by kernel_rfl⟩
  obtain ⟨a, b, d⟩ := h1
  unfold isNm
  rw [a, b, d]
  simp
theorem en_db {c : UInt8} (h : enC c = true) : isDb c = false := by
  rcases en_cases h with rfl | rfl | rfl | rfl | rfl | rfl | rfl | rfl | rfl | rfl <;> decide
theorem en_dot {c : UInt8} (h : enC c = true) : ¬ c = 46 := by
  rcases en_cases h with rfl | rfl | rfl | rfl | rfl | rfl | rfl | rfl | rfl | rfl <;> decide
theorem en_slash {c : UInt8} (h : enC c = true) : c ≠ 47 := by
  rcases en_cases h with rfl | rfl | rfl | rfl | rfl | rfl | rfl | rfl | rfl | rfl <;> decide
theorem en_signs {c : UInt8} (h : enC c = true) : ∀ t ∈ signs, t.length ≤ 2 ∧ t[1]? ≠ some c := by
  rcases en_cases h with rfl | rfl | rfl | rfl | rfl | rfl | rfl | rfl | rfl | rfl <;> decide
theorem nameL_en (l : List UInt8) (c : UInt8) (r : List UInt8) (hc : enC c = true) : nameL (l ++ c :: r) = nameL l := by
  unfold nameL
  rw [runL_app isNm c r (en_small hc) (en_name hc) _ _ _ (by simp only [List.length_append, List.length_cons]; omega)]
  exact runL_fuel _ _ _ _ _ (by simp only [List.length_append, List.length_cons]; omega) (Nat.le_refl _)
theorem digs_en (c : UInt8) (r : List UInt8) (hc : enC c = true) : ∀ l : List UInt8, digs (l ++ c :: r) = digs l
  | [] => by unfold digs; simp [en_db hc]
  | a :: l => by
    have ih := digs_en c r hc l
    unfold digs at ih ⊢
    rw [List.cons_append, List.takeWhile_cons, List.takeWhile_cons]
    cases isDb a
    · rfl
    · simp only [if_true, List.length_cons]
      rw [ih]
theorem numL_en (l : List UInt8) (c : UInt8) (r : List UInt8) (hc : enC c = true) : numL (l ++ c :: r) = numL l := by
  have h1 := digs_le l
  unfold numL
  rw [digs_en c r hc, List.drop_append_of_le_length h1]
  by_cases h0 : digs l = 0
  · rw [if_pos h0, if_pos h0]
  · rw [if_neg h0, if_neg h0]
    cases hd : l.drop (digs l) with
    | nil =>
      have hn : ¬ (([] : List UInt8) ++ c :: r).head? = some 46 := by
        simp
        exact en_dot hc
      rw [if_neg (fun h => hn h.1), if_neg (fun h => by cases h.1)]
    | cons x y =>
      have hlen : digs l + 1 ≤ l.length := by
        have := congrArg List.length hd
        rw [List.length_drop] at this
        simp at this
        omega
      rw [List.drop_append_of_le_length hlen, digs_en c r hc]
      rfl
theorem wordL_en (l : List UInt8) (r : List UInt8) (hl : l ≠ []) (hr : En r) : wordL (l ++ r) = wordL l := by
  cases r with
  | nil => rw [List.append_nil]
  | cons c r =>
    have hc := hr c rfl
    unfold wordL signL
    rw [nameL_en l c r hc, numL_en l c r hc, signIn_app l c r hl signs (en_signs hc)]
theorem skip_en (l r : List UInt8) (hl : l ≠ []) (hr : En r) (h : skipL l = 0) : skipL (l ++ r) = 0 := by
  cases r with
  | nil => rw [List.append_nil]; exact h
  | cons c r => exact skip_app0 c r l (en_slash (hr c rfl)) hl h
theorem Sc.word {w r : List UInt8} {k : Nat} {ws : List Wd} (hw : wordL w = (k, w.length)) (hne : w ≠ []) (hs : skipL w = 0) (hr : En r) (h : Sc r ws) : Sc (w ++ r) ((k, w) :: ws) :=
  Sc.tok (by rw [wordL_en w r hne hr, hw]) hne (skip_en w r hne hr hs) h
end Go.Proofs.YtpbkeamjdolpgaaGreatDoor
namespace Go.Proofs.YtpbkeamjdolpgaaGreatDoor
open Go.RowKit Go.Lib

/-! ### The words of a tree -/
theorem exsR_of : ∀ {l : List Nd}, (∀ x ∈ l, exR x = true) → exsR l = true
  | [], _ => rfl
  | y :: r, h => by
    show (exR y && exsR r) = true
    rw [h y (by simp), exsR_of fun x hx => h x (by simp [hx])]
    rfl
theorem stsR_of : ∀ {l : List Nd}, (∀ x ∈ l, stR x = true) → stsR l = true
  | [], _ => rfl
  | y :: r, h => by
    show (stR y && stsR r) = true
    rw [h y (by simp), stsR_of fun x hx => h x (by simp [hx])]
    rfl
theorem shR_one {w : Int} {l : List Nd} (h : shR [w] l = true) : ∃ x, l = [x] ∧ (if w < 0 then exR x else decide (x.kind = w) && partR x) = true := by
  match l, h with
  | [], h => cases h
  | [x], h =>
    have h' : ((if w < 0 then exR x else decide (x.kind = w) && partR x) && shR [] []) = true := h
    rw [Bool.and_eq_true] at h'
    exact ⟨x, rfl, h'.1⟩
  | x :: y :: r, h =>
    have h' : ((if w < 0 then exR x else decide (x.kind = w) && partR x) && false) = true := h
    rw [Bool.and_false] at h'
    cases h'
theorem shR_two {w v : Int} {l : List Nd} (h : shR [w, v] l = true) : ∃ x y, l = [x, y] ∧ (if w < 0 then exR x else decide (x.kind = w) && partR x) = true ∧ (if v < 0 then exR y else decide (y.kind = v) && partR y) = true := by
  match l, h with
  | [], h => cases h
  | x :: r, h =>
    have h' : ((if w < 0 then exR x else decide (x.kind = w) && partR x) && shR [v] r) = true := h
    rw [Bool.and_eq_true] at h'
    obtain ⟨y, rfl, hy⟩ := shR_one h'.2
    exact ⟨x, y, rfl, h'.1, hy⟩
theorem shR_three {w v u : Int} {l : List Nd} (h : shR [w, v, u] l = true) : ∃ x y z, l = [x, y, z] ∧ (if w < 0 then exR x else decide (x.kind = w) && partR x) = true ∧ (if v < 0 then exR y else decide (y.kind = v) && partR y) = true ∧ (if u < 0 then exR z else decide (z.kind = u) && partR z) = true := by
  match l, h with
  | [], h => cases h
  | x :: r, h =>
    have h' : ((if w < 0 then exR x else decide (x.kind = w) && partR x) && shR [v, u] r) = true := h
    rw [Bool.and_eq_true] at h'
    obtain ⟨y, z, rfl, hy⟩ := shR_two h'.2
    exact ⟨x, y, z, rfl, h'.1, hy⟩
theorem part_cases {x : Nd} {w : Int} (h : (decide (x.kind = w) && partR x) = true) : ∃ l p, x = .mk w [] l p ∧ (if w = 0 then stsR l else if w = 4 then parsR l else exsR l) = true := by
  obtain ⟨k, n, l, p⟩ := x
  rw [Bool.and_eq_true, decide_eq_true_eq] at h
  obtain ⟨rfl, h2⟩ := h
  have h3 : (n.isEmpty && (if k = 0 then stsR l else if k = 4 then parsR l else exsR l)) = true := h2
  rw [Bool.and_eq_true] at h3
  obtain ⟨h4, h5⟩ := h3
  have : n = [] := by simpa using h4
  subst this
  exact ⟨l, p, rfl, h5⟩
theorem exR_eq (kind : Int) (name : List UInt8) (kids : List Nd) (pos : Int) : exR (.mk kind name kids pos) =
    if kind = 9 then numR name && kids.isEmpty
    else if kind = 10 then plainR name && kids.isEmpty
    else if kind = 11 then name.isEmpty && exsR kids
    else if kind = 12 then (if kids.length = 1 then (decide (name = [45]) || decide (name = [33])) && exsR kids else decide (0 < levelS name) && decide (kids.length = 2) && exsR kids)
    else if kind = 13 then plainR name && shR [8] kids
    else if kind = 14 then name.isEmpty && decide (kids.length = 2) && exsR kids
    else if kind = 15 then name.isEmpty && decide (kids.length = 3) && exsR kids
    else false := by rw [exR]
inductive StC : Nd → Prop where
  | set (s x p) : plainR s = true → exR x = true → StC (.mk 1 s [x] p)
  | module (s l q b r p) : plainR s = true → parsR l = true → stsR b = true → StC (.mk 2 s [.mk 4 [] l q, .mk 0 [] b r] p)
  | function (s l q x p) : plainR s = true → parsR l = true → exR x = true → StC (.mk 3 s [.mk 4 [] l q, x] p)
  | loop (s x b r p) : plainR s = true → exR x = true → stsR b = true → StC (.mk 5 s [x, .mk 0 [] b r] p)
  | cond (x b r p) : exR x = true → stsR b = true → StC (.mk 6 [] [x, .mk 0 [] b r] p)
  | cond2 (x b r b' r' p) : exR x = true → stsR b = true → stsR b' = true → StC (.mk 6 [] [x, .mk 0 [] b r, .mk 0 [] b' r'] p)
  | call (s l q p) : plainR s = true → exsR l = true → StC (.mk 7 s [.mk 8 [] l q] p)
  | callB (s l q b r p) : plainR s = true → exsR l = true → stsR b = true → StC (.mk 7 s [.mk 8 [] l q, .mk 0 [] b r] p)
theorem stR_eq (kind : Int) (name : List UInt8) (kids : List Nd) (pos : Int) : stR (.mk kind name kids pos) =
    if kind = 6 then name.isEmpty && shR (if kids.length = 2 then [-1, 0] else [-1, 0, 0]) kids
    else plainR name &&
      if kind = 1 then shR [-1] kids
      else if kind = 2 then shR [4, 0] kids
      else if kind = 3 then shR [4, -1] kids
      else if kind = 5 then shR [-1, 0] kids
      else if kind = 7 then shR (if kids.length = 1 then [8] else [8, 0]) kids
      else false := by rw [stR]
theorem stC_of {x : Nd} (h : stR x = true) : StC x := by
  obtain ⟨k, n, l, p⟩ := x
  rw [stR_eq] at h
  by_cases h6 : k = 6
  · rw [if_pos h6, Bool.and_eq_true, List.isEmpty_iff] at h
    obtain ⟨rfl, h⟩ := h
    subst h6
    by_cases hl : l.length = 2
    · rw [if_pos hl] at h
      obtain ⟨x, y, rfl, hx, hy⟩ := shR_two h
      rw [if_pos (by decide)] at hx
      rw [if_neg (by decide)] at hy
      obtain ⟨b, r, rfl, hb⟩ := part_cases hy
      exact .cond x b r p hx hb
    · rw [if_neg hl] at h
      obtain ⟨x, y, z, rfl, hx, hy, hz⟩ := shR_three h
      rw [if_pos (by decide)] at hx
      rw [if_neg (by decide)] at hy hz
      obtain ⟨b, r, rfl, hb⟩ := part_cases hy
      obtain ⟨b', r', rfl, hb'⟩ := part_cases hz
      exact .cond2 x b r b' r' p hx hb hb'
  rw [if_neg h6, Bool.and_eq_true] at h
  obtain ⟨hn, h⟩ := h
  by_cases h1 : k = 1
  · rw [if_pos h1] at h
    subst h1
    obtain ⟨x, rfl, hx⟩ := shR_one h
    rw [if_pos (by decide)] at hx
    exact .set n x p hn hx
  rw [if_neg h1] at h
  by_cases h2 : k = 2
  · rw [if_pos h2] at h
    subst h2
    obtain ⟨x, y, rfl, hx, hy⟩ := shR_two h
    rw [if_neg (by decide)] at hx hy
    obtain ⟨l, q, rfl, hl⟩ := part_cases hx
    obtain ⟨b, r, rfl, hb⟩ := part_cases hy
    exact .module n l q b r p hn hl hb
  rw [if_neg h2] at h
  by_cases h3 : k = 3
  · rw [if_pos h3] at h
    subst h3
    obtain ⟨x, y, rfl, hx, hy⟩ := shR_two h
    rw [if_neg (by decide)] at hx
    rw [if_pos (by decide)] at hy
    obtain ⟨l, q, rfl, hl⟩ := part_cases hx
    exact .function n l q y p hn hl hy
  rw [if_neg h3] at h
  by_cases h5 : k = 5
  · rw [if_pos h5] at h
    subst h5
    obtain ⟨x, y, rfl, hx, hy⟩ := shR_two h
    rw [if_pos (by decide)] at hx
    rw [if_neg (by decide)] at hy
    obtain ⟨b, r, rfl, hb⟩ := part_cases hy
    exact .loop n x b r p hn hx hb
  rw [if_neg h5] at h
  by_cases h7 : k = 7
  · rw [if_pos h7] at h
    subst h7
    by_cases hl : l.length = 1
    · rw [if_pos hl] at h
      obtain ⟨x, rfl, hx⟩ := shR_one h
      rw [if_neg (by decide)] at hx
      obtain ⟨a, q, rfl, ha⟩ := part_cases hx
      exact .call n a q p hn ha
    · rw [if_neg hl] at h
      obtain ⟨x, y, rfl, hx, hy⟩ := shR_two h
      rw [if_neg (by decide)] at hx hy
      obtain ⟨a, q, rfl, ha⟩ := part_cases hx
      obtain ⟨b, r, rfl, hb⟩ := part_cases hy
      exact .callB n a q b r p hn ha hb
  rw [if_neg h7] at h
  cases h

/-! ### The words of its text -/
end Go.Proofs.YtpbkeamjdolpgaaGreatDoor
namespace Go.Proofs.YtpbkeamjdolpgaaGreatDoor
open Go.RowKit Go.Lib Go.Shelf Go.Sort

theorem kindsR_false (ws : List Int) (l : List Nd) : kindsR false ws l = shR ws l := by
  unfold kindsR
  by_cases h : l.length = ws.length
  · rw [h, List.take_length]
    simp
  · have : shR ws l = false := by
      cases hs : shR ws l
      · rfl
      · exact absurd (shR_len ws l hs).symm h
    rw [this]
    simp [h]
theorem shR_m1 (x : Nd) (ws : List Int) (l : List Nd) : shR (-1 :: ws) (x :: l) = (exR x && shR ws l) := rfl
theorem shR_m2 (l : List Nd) : shR [-1, -1] l = (decide (l.length = 2) && exsR l) := by
  match l with
  | [] => rfl
  | [x] =>
    rw [shR_m1]
    simp [shR]
  | [x, y] =>
    show (exR x && (exR y && true)) = (decide (2 = 2) && (exR x && (exR y && true)))
    simp
  | x :: y :: z :: r =>
    rw [shR_m1, shR_m1]
    simp [shR]
theorem shR_m3 (l : List Nd) : shR [-1, -1, -1] l = (decide (l.length = 3) && exsR l) := by
  match l with
  | [] => rfl
  | [x] =>
    rw [shR_m1]
    simp [shR]
  | [x, y] =>
    rw [shR_m1, shR_m1]
    simp [shR]
  | [x, y, z] =>
    show (exR x && (exR y && (exR z && true))) = (decide (3 = 3) && (exR x && (exR y && (exR z && true))))
    simp
  | x :: y :: z :: u :: r =>
    rw [shR_m1, shR_m1, shR_m1]
    simp [shR]
theorem kinds_all (ok : Nat → Prop) (short : Bool) (ws : List Int) (m : Nat) (hm : ws.length = m) (hm3 : m ≤ 3) (l : List Nd) (n : Nat) (hl : l.length = n) (hn : n < 2 ^ 62) (y : Option Addr) (c g cm : Nat) (w : World) (hrow : NdRow w ok l y) (hi : IntRow w g ws) (h : KidsOk ok w l) :
    Calls Tryz.prog 93 #[.slice y n c, .bool short, .slice (some ⟨g, 0, none⟩) m cm] w (Yes (kindsR short ws l) w) := by
  by_cases hs : n = m ∨ short = true ∧ n + 1 = m
  · have e : kindsR short ws l = shR (ws.take n) l := by
      unfold kindsR
      rw [hl, hm]
      rcases hs with h | ⟨h1, h2⟩
      · simp [h]
      · simp [h1, h2]
    rw [e]
    exact kinds_yes ok short ws m hm hm3 l n hl hs y c g cm w hrow hi fun x hx => ⟨(h x hx).1, (h x hx).2.2⟩
  · have e : kindsR short ws l = false := by
      unfold kindsR
      rw [hl, hm]
      have h1 : ¬ n = m := fun h => hs (.inl h)
      cases short
      · simp [h1]
      · have h2 : ¬ n + 1 = m := fun h => hs (.inr ⟨rfl, h⟩)
        simp [h1, h2]
    rw [e]
    refine (kinds_no short n m hn hm3 (fun h => hs (.inl h)) (fun h h2 => hs (.inr ⟨h, h2⟩)) y c g cm w).mono ?_
    rintro e w' ⟨he, rfl⟩
    exact ⟨he, Below.refl _ _⟩
theorem ints_one (w : World) (a : Int) (t : TypeId) : IntRow (w.alloc (.cells #[.int .i64 a] t)) w.heap.size [a] := by
  intro j u hj
  have h := heap_alloc_new w (.cells #[.int .i64 a] t)
  match j, hj with
  | 0, hj => cases hj; unfold World.cell?; rw [h]; rfl
theorem ints_two (w : World) (a b : Int) (t : TypeId) : IntRow (w.alloc (.cells #[.int .i64 a, .int .i64 b] t)) w.heap.size [a, b] := by
  intro j u hj
  have h := heap_alloc_new w (.cells #[.int .i64 a, .int .i64 b] t)
  match j, hj with
  | 0, hj => cases hj; unfold World.cell?; rw [h]; rfl
  | 1, hj => cases hj; unfold World.cell?; rw [h]; rfl
theorem ints_three (w : World) (a b c : Int) (t : TypeId) : IntRow (w.alloc (.cells #[.int .i64 a, .int .i64 b, .int .i64 c] t)) w.heap.size [a, b, c] := by
  intro j u hj
  have h := heap_alloc_new w (.cells #[.int .i64 a, .int .i64 b, .int .i64 c] t)
  match j, hj with
  | 0, hj => cases hj; unfold World.cell?; rw [h]; rfl
  | 1, hj => cases hj; unfold World.cell?; rw [h]; rfl
  | 2, hj => cases hj; unfold World.cell?; rw [h]; rfl

section
variable (ok : Nat → Prop) (w0 : World) (n : List UInt8) (kids : List Nd) (p : Int) (hw : wtL kids + n.length < 2 ^ 40) (hG : Gl w0) (h : KidsOk ok w0 kids)
set_option maxHeartbeats 4000000 in
set_option maxRecDepth 100000 in
include hw h in
theorem ex11_any : OneQ 147 [] ok exR w0 (.mk 11 n kids p) := by
  intro v w1 hb hv
  obtain ⟨y, c, rfl, hrow⟩ := hv
  have hlen := len_wtL kids
  have hA : Below w1.heap.size w1 (w1.alloc (ndO 11 n y kids.length c p)) := (Below.refl _ _).alloc (Nat.le_refl _) _
  have e1 := enters_of Tryz.func147 (by kernel_rfl) rfl
  have hK := (h.below hb).below hA
  have c1 := all_any 147 e1 ok exR kids kids.length rfl (by omega) y c _ (hrow.below hA) (fun x hx => (hK x hx).1)
  rw [← exsR_all] at c1
  have HA := Lib.hid hA
  show Calls _ _ _ _ (Yes (n.isEmpty && exsR kids) w1)
  simp only [List.append_toArray, List.cons_append, List.nil_append]
  unfold ndO at c1
  obtain ⟨B1, hB1⟩ : ∃ B, exsR kids = B := ⟨_, rfl⟩
  rw [hB1] at c1 ⊢
  clear h hrow hB1 hb hA hK hlen hw
  by_cases hn : n = []
  · subst hn
    go_enter Tryz.func147, Tryz.ntmps147
    go_wp2_with fail
    refine c1.mono ?_
    clear c1
    rintro e w2 ⟨rfl, hb2⟩
    go_wp2_with fail
    go_ret
    exact ⟨by simp, tr HA.out hb2⟩
  · have e : n.isEmpty = false := by simpa using hn
    rw [e, Bool.false_and]
    have Q : (n == []) = false := beq_eq_false_iff_ne.2 hn
    have Q2 : (n != []) = true := by rw [bne_iff_ne]; exact hn
    clear c1
    go_enter Tryz.func147, Tryz.ntmps147
    go_wp2_with fail
    go_ret
    exact ⟨rfl, HA.out⟩
set_option maxHeartbeats 4000000 in
set_option maxRecDepth 100000 in
include hw h in
theorem ex14_any : OneQ 147 [] ok exR w0 (.mk 14 n kids p) := by
  intro v w1 hb hv
  obtain ⟨y, c, rfl, hrow⟩ := hv
  have hlen := len_wtL kids
  have hA : Below w1.heap.size w1 (w1.alloc (ndO 14 n y kids.length c p)) := (Below.refl _ _).alloc (Nat.le_refl _) _
  have hI : Below (w1.alloc (ndO 14 n y kids.length c p)).heap.size (w1.alloc (ndO 14 n y kids.length c p)) ((w1.alloc (ndO 14 n y kids.length c p)).alloc (.cells #[.int .i64 (-1), .int .i64 (-1)] 3)) := (Below.refl _ _).alloc (Nat.le_refl _) _
  have c1 := kinds_all ok false [-1, -1] 2 rfl (by omega) kids kids.length rfl (by omega) y c _ 2 _ ((hrow.below hA).below hI) (ints_two _ (-1) (-1) 3) (((h.below hb).below hA).below hI)
  rw [World.size_alloc] at c1
  have HA := Lib.hid (tr hA hI)
  have hE : exR (.mk 14 n kids p) = (n.isEmpty && kindsR false [-1, -1] kids) := by
    rw [exR_eq, kindsR_false, shR_m2]
    simp [Bool.and_assoc]
  rw [hE]
  show Calls _ _ _ _ (Yes _ w1)
  simp only [List.append_toArray, List.cons_append, List.nil_append]
  unfold ndO at c1
  obtain ⟨B1, hB1⟩ : ∃ B, kindsR false [-1, -1] kids = B := ⟨_, rfl⟩
  rw [hB1] at c1 ⊢
  have HA0 := Lib.hid hA
  clear h hrow hB1 hb hA hI hlen hw hE
  by_cases hn : n = []
  · subst hn
    go_enter Tryz.func147, Tryz.ntmps147
    go_wp2_with fail
    refine c1.mono ?_
    clear c1
    rintro e w2 ⟨rfl, hb2⟩
    go_wp2_with fail
    go_ret
    exact ⟨by simp, tr HA.out hb2⟩
  · have e : n.isEmpty = false := by simpa using hn
    rw [e, Bool.false_and]
    have Q : (n == []) = false := beq_eq_false_iff_ne.2 hn
    have Q2 : (n != []) = true := by rw [bne_iff_ne]; exact hn
    clear c1
    go_enter Tryz.func147, Tryz.ntmps147
    go_wp2_with fail
    go_ret
    exact ⟨rfl, HA0.out⟩
set_option maxHeartbeats 4000000 in
set_option maxRecDepth 100000 in
include hw h in
theorem ex15_any : OneQ 147 [] ok exR w0 (.mk 15 n kids p) := by
  intro v w1 hb hv
  obtain ⟨y, c, rfl, hrow⟩ := hv
  have hlen := len_wtL kids
  have hA : Below w1.heap.size w1 (w1.alloc (ndO 15 n y kids.length c p)) := (Below.refl _ _).alloc (Nat.le_refl _) _
  have hI : Below (w1.alloc (ndO 15 n y kids.length c p)).heap.size (w1.alloc (ndO 15 n y kids.length c p)) ((w1.alloc (ndO 15 n y kids.length c p)).alloc (.cells #[.int .i64 (-1), .int .i64 (-1), .int .i64 (-1)] 3)) := (Below.refl _ _).alloc (Nat.le_refl _) _
  have c1 := kinds_all ok false [-1, -1, -1] 3 rfl (by omega) kids kids.length rfl (by omega) y c _ 3 _ ((hrow.below hA).below hI) (ints_three _ (-1) (-1) (-1) 3) (((h.below hb).below hA).below hI)
  rw [World.size_alloc] at c1
  have HA := Lib.hid (tr hA hI)
  have hE : exR (.mk 15 n kids p) = (n.isEmpty && kindsR false [-1, -1, -1] kids) := by
    rw [exR_eq, kindsR_false, shR_m3]
    simp [Bool.and_assoc]
  rw [hE]
  show Calls _ _ _ _ (Yes _ w1)
  simp only [List.append_toArray, List.cons_append, List.nil_append]
  unfold ndO at c1
  obtain ⟨B1, hB1⟩ : ∃ B, kindsR false [-1, -1, -1] kids = B := ⟨_, rfl⟩
  rw [hB1] at c1 ⊢
  have HA0 := Lib.hid hA
  clear h hrow hB1 hb hA hI hlen hw hE
  by_cases hn : n = []
  · subst hn
    go_enter Tryz.func147, Tryz.ntmps147
    go_wp2_with fail
    refine c1.mono ?_
    clear c1
    rintro e w2 ⟨rfl, hb2⟩
    go_wp2_with fail
    go_ret
    exact ⟨by simp, tr HA.out hb2⟩
  · have e : n.isEmpty = false := by simpa using hn
    rw [e, Bool.false_and]
    have Q : (n == []) = false := beq_eq_false_iff_ne.2 hn
    have Q2 : (n != []) = true := by rw [bne_iff_ne]; exact hn
    clear c1
    go_enter Tryz.func147, Tryz.ntmps147
    go_wp2_with fail
    go_ret
    exact ⟨rfl, HA0.out⟩
set_option maxHeartbeats 4000000 in
set_option maxRecDepth 100000 in
include hw h hG in
theorem ex13_any : OneQ 147 [] ok exR w0 (.mk 13 n kids p) := by
  intro v w1 hb hv
  obtain ⟨y, c, rfl, hrow⟩ := hv
  have hlen := len_wtL kids
  have hA : Below w1.heap.size w1 (w1.alloc (ndO 13 n y kids.length c p)) := (Below.refl _ _).alloc (Nat.le_refl _) _
  have c0 := plain_any n _ (by omega) ((hG.below hb).below hA)
  have C1 : Hid (∀ w2, Below (w1.alloc (ndO 13 n y kids.length c p)).heap.size (w1.alloc (ndO 13 n y kids.length c p)) w2 → Calls Tryz.prog 93 #[.slice y kids.length c, .bool false, .slice (some ⟨w2.heap.size, 0, none⟩) 1 1] (w2.alloc (.cells #[.int .i64 8] 3)) (Yes (kindsR false [8] kids) (w2.alloc (.cells #[.int .i64 8] 3)))) := fun w2 hb2 =>
    kinds_all ok false [8] 1 rfl (by omega) kids kids.length rfl (by omega) y c _ 1 _ (((hrow.below hA).below hb2).below ((Below.refl _ _).alloc (Nat.le_refl _) _)) (ints_one _ 8 3) ((((h.below hb).below hA).below hb2).below ((Below.refl _ _).alloc (Nat.le_refl _) _))
  have HA := Lib.hid hA
  have hE : exR (.mk 13 n kids p) = (plainR n && kindsR false [8] kids) := by
    rw [exR_eq, kindsR_false]
    rfl
  rw [hE]
  show Calls _ _ _ _ (Yes _ w1)
  simp only [List.append_toArray, List.cons_append, List.nil_append]
  unfold ndO at c0
  clear h hrow hb hA hlen hw hE hG
  have hz : ∀ o, w1.heap.size < (w1.alloc o).heap.size := fun o => by rw [World.size_alloc]; omega
  cases hP : plainR n
  · rw [hP] at c0
    rw [Bool.false_and]
    clear C1 hP
    go_enter Tryz.func147, Tryz.ntmps147
    go_wp2_with fail
    refine c0.mono ?_
    clear c0
    rintro e w2 ⟨rfl, hb2⟩
    go_wp2_with fail
    go_ret
    exact ⟨rfl, tr HA.out hb2⟩
  · rw [hP] at c0
    rw [Bool.true_and]
    clear hP
    obtain ⟨B1, hB1⟩ : ∃ B, kindsR false [8] kids = B := ⟨_, rfl⟩
    rw [hB1] at C1 ⊢
    clear hB1
    have hbx : (w1.alloc (.cells #[.int .i64 13, .string ⟨n.toArray⟩, .slice y kids.length c, .int .i64 p] 53)).cell? ⟨w1.heap.size, 2, none⟩ = some (.slice y kids.length c) := (Box4.new w1 _ _ _ _).facts.2.2.1
    have HBX := Lib.hid hbx
    clear hbx
    go_enter Tryz.func147, Tryz.ntmps147
    go_wp2_with fail
    refine c0.mono ?_
    clear c0
    rintro e w2 ⟨rfl, hb2⟩
    have x2 := (hb2.cell (p := ⟨w1.heap.size, 2, none⟩) (hz _)).trans HBX.out
    go_wp2_with fail
    refine (C1.out w2 hb2).mono ?_
    rintro e w3 ⟨rfl, hb3⟩
    go_wp2_with fail
    go_ret
    exact ⟨rfl, tr (tr HA.out hb2) (tr ((Below.refl _ _).alloc (Nat.le_refl _) _) hb3)⟩
set_option maxHeartbeats 4000000 in
set_option maxRecDepth 100000 in
include hw hG in
theorem ex10_any : OneQ 147 [] ok exR w0 (.mk 10 n kids p) := by
  intro v w1 hb hv
  obtain ⟨y, c, rfl, hrow⟩ := hv
  generalize c.val = c
  have hlen := len_wtL kids
  have hA : Below w1.heap.size w1 (w1.alloc (ndO 10 n y kids.length c p)) := (Below.refl _ _).alloc (Nat.le_refl _) _
  have c0 := plain_any n _ (by omega) ((hG.below hb).below hA)
  have hE : exR (.mk 10 n kids p) = (plainR n && decide (kids.length = 0)) := by
    rw [exR_eq]
    cases kids <;> simp
  rw [hE]
  show Calls _ _ _ _ (Yes _ w1)
  simp only [List.append_toArray, List.cons_append, List.nil_append]
  unfold ndO at c0
  obtain ⟨m, hm⟩ : ∃ m, kids.length = m := ⟨_, rfl⟩
  rw [hm] at c0 hlen hA ⊢
  have HA := Lib.hid hA
  clear hrow hb hA hw hE hG hm
  have hz : ∀ o, w1.heap.size < (w1.alloc o).heap.size := fun o => by rw [World.size_alloc]; omega
  have hbx : (w1.alloc (.cells #[.int .i64 10, .string ⟨n.toArray⟩, .slice y m c, .int .i64 p] 53)).cell? ⟨w1.heap.size, 2, none⟩ = some (.slice y m c) := (Box4.new w1 _ _ _ _).facts.2.2.1
  have HBX := Lib.hid hbx
  clear hbx
  cases hP : plainR n
  · rw [hP] at c0
    rw [Bool.false_and]
    clear hP
    go_enter Tryz.func147, Tryz.ntmps147
    go_wp2_with fail
    refine c0.mono ?_
    clear c0
    rintro e w2 ⟨rfl, hb2⟩
    go_wp2_with fail
    go_ret
    exact ⟨rfl, tr HA.out hb2⟩
  · rw [hP] at c0
    rw [Bool.true_and]
    clear hP
    have Q : ((m : Int) == 0) = decide (m = 0) := by
      by_cases h : m = 0
      · subst h; rfl
      · have : ((m : Int) == 0) = false := beq_eq_false_iff_ne.2 (by omega)
        rw [this]
        simp [h]
    cases hB : decide (m = 0)
    · rw [hB] at Q
      clear hB
      go_enter Tryz.func147, Tryz.ntmps147
      go_wp2_with fail
      refine c0.mono ?_
      clear c0
      rintro e w2 ⟨rfl, hb2⟩
      have x2 := (hb2.cell (p := ⟨w1.heap.size, 2, none⟩) (hz _)).trans HBX.out
      go_wp2_with fail
      go_ret
      exact ⟨rfl, tr HA.out hb2⟩
    · have hm0 : m = 0 := by simpa using hB
      subst hm0
      clear hB Q
      go_enter Tryz.func147, Tryz.ntmps147
      go_wp2_with fail
      refine c0.mono ?_
      clear c0
      rintro e w2 ⟨rfl, hb2⟩
      have x2 := (hb2.cell (p := ⟨w1.heap.size, 2, none⟩) (hz _)).trans HBX.out
      go_wp2_with fail
      go_ret
      exact ⟨rfl, tr HA.out hb2⟩
end
end Go.Proofs.YtpbkeamjdolpgaaGreatDoor
namespace Go.Proofs.YtpbkeamjdolpgaaGreatDoor
open Go.RowKit Go.Lib Go.Shelf Go.Sort

section
variable (ok : Nat → Prop) (w0 : World) (n : List UInt8) (kids : List Nd) (p : Int) (hw : wtL kids + n.length < 2 ^ 40) (hG : Gl w0) (h : KidsOk ok w0 kids)
set_option maxHeartbeats 4000000 in
set_option maxRecDepth 100000 in
include h in
theorem ex12a_any (x : Nd) (hx : kids = [x]) : OneQ 147 [] ok exR w0 (.mk 12 n kids p) := by
  subst hx
  intro v w1 hb hv
  obtain ⟨y, c, rfl, hrow⟩ := hv
  have hA : Below w1.heap.size w1 (w1.alloc (ndO 12 n y 1 c p)) := (Below.refl _ _).alloc (Nat.le_refl _) _
  have hr2 := hrow.below hA
  obtain ⟨B, o, rfl, hat, _⟩ := hr2
  obtain ⟨k', nm, z, kk, cc, p', rfl, x0, x1, x2, x3, hk⟩ := hat.val
  have c1 := (h (.mk k' nm kk p') (by simp)).1 (.agg #[.int .i64 k', .string ⟨nm.toArray⟩, .slice z kk.length cc, .int .i64 p']) _ (tr hb hA) ⟨z, cc, rfl, hk⟩
  have HA := Lib.hid hA
  have hE : exR (.mk 12 n [.mk k' nm kk p'] p) = ((decide (n = [45]) || decide (n = [33])) && exR (.mk k' nm kk p')) := by
    rw [exR_eq]
    show (((decide (n = [45]) || decide (n = [33])) && (exR (.mk k' nm kk p') && true))) = _
    rw [Bool.and_true]
  rw [hE]
  show Calls _ _ _ _ (Yes _ w1)
  simp only [List.append_toArray, List.cons_append, List.nil_append, List.length_singleton] at c1 ⊢
  obtain ⟨B1, hB1⟩ : ∃ B, exR (.mk k' nm kk p') = B := ⟨_, rfl⟩
  rw [hB1] at c1 ⊢
  unfold ndO at c1 x0 x1 x2 x3
  clear h hrow hB1 hb hA hE hat hk
  by_cases h1 : n = [45]
  · subst h1
    go_enter Tryz.func147, Tryz.ntmps147
    go_wp2_with fail
    refine c1.mono ?_
    clear c1
    rintro e w2 ⟨rfl, hb2⟩
    go_wp2_with fail
    go_ret
    exact ⟨by simp, tr HA.out hb2⟩
  · have Q1 : (n == [45]) = false := beq_eq_false_iff_ne.2 h1
    by_cases h2 : n = [33]
    · subst h2
      go_enter Tryz.func147, Tryz.ntmps147
      go_wp2_with fail
      refine c1.mono ?_
      clear c1
      rintro e w2 ⟨rfl, hb2⟩
      go_wp2_with fail
      go_ret
      exact ⟨by simp, tr HA.out hb2⟩
    · have Q2 : (n == [33]) = false := beq_eq_false_iff_ne.2 h2
      have e : ((decide (n = [45]) || decide (n = [33])) && B1) = false := by simp [h1, h2]
      rw [e]
      clear c1 h1 h2 e
      go_enter Tryz.func147, Tryz.ntmps147
      go_wp2_with fail
      go_ret
      exact ⟨rfl, HA.out⟩
set_option maxHeartbeats 4000000 in
set_option maxRecDepth 100000 in
include hw h in
theorem ex12b_any (hx : kids.length ≠ 1) : OneQ 147 [] ok exR w0 (.mk 12 n kids p) := by
  intro v w1 hb hv
  obtain ⟨y, c, rfl, hrow⟩ := hv
  have hlen := len_wtL kids
  have hA : Below w1.heap.size w1 (w1.alloc (ndO 12 n y kids.length c p)) := (Below.refl _ _).alloc (Nat.le_refl _) _
  have c0 := levelC_any n (w1.alloc (ndO 12 n y kids.length c p))
  have C1 : Hid (∀ w2, Below (w1.alloc (ndO 12 n y kids.length c p)).heap.size (w1.alloc (ndO 12 n y kids.length c p)) w2 → Calls Tryz.prog 93 #[.slice y kids.length c, .bool false, .slice (some ⟨w2.heap.size, 0, none⟩) 2 2] (w2.alloc (.cells #[.int .i64 (-1), .int .i64 (-1)] 3)) (Yes (kindsR false [-1, -1] kids) (w2.alloc (.cells #[.int .i64 (-1), .int .i64 (-1)] 3)))) := fun w2 hb2 =>
    kinds_all ok false [-1, -1] 2 rfl (by omega) kids kids.length rfl (by omega) y c _ 2 _ (((hrow.below hA).below hb2).below ((Below.refl _ _).alloc (Nat.le_refl _) _)) (ints_two _ (-1) (-1) 3) ((((h.below hb).below hA).below hb2).below ((Below.refl _ _).alloc (Nat.le_refl _) _))
  have hE : exR (.mk 12 n kids p) = (decide (0 < levelS n) && kindsR false [-1, -1] kids) := by
    rw [exR_eq, kindsR_false, shR_m2]
    simp [hx, Bool.and_assoc]
  rw [hE]
  show Calls _ _ _ _ (Yes _ w1)
  simp only [List.append_toArray, List.cons_append, List.nil_append]
  have Qx : ((kids.length : Int) == 1) = false := beq_eq_false_iff_ne.2 (by omega)
  have HA := Lib.hid hA
  have HX := Lib.hid hx
  obtain ⟨L, hL⟩ : ∃ L, levelS n = L := ⟨_, rfl⟩
  rw [hL] at c0 ⊢
  unfold ndO at c0
  clear h hrow hb hA hw hE hL hx
  have hz : ∀ o, w1.heap.size < (w1.alloc o).heap.size := fun o => by rw [World.size_alloc]; omega
  have hbx : (w1.alloc (.cells #[.int .i64 12, .string ⟨n.toArray⟩, .slice y kids.length c, .int .i64 p] 53)).cell? ⟨w1.heap.size, 2, none⟩ = some (.slice y kids.length c) := (Box4.new w1 _ _ _ _).facts.2.2.1
  have HBX := Lib.hid hbx
  clear hbx
  by_cases h0 : 0 < L
  · have e : decide (0 < L) = true := by simpa using h0
    rw [e, Bool.true_and]
    obtain ⟨B1, hB1⟩ : ∃ B, kindsR false [-1, -1] kids = B := ⟨_, rfl⟩
    rw [hB1] at C1 ⊢
    clear hB1 e
    have Q0 : decide ((L : Int) > 0) = true := by simp; omega
    have Q1 : (0 : Int) < (L : Int) := by omega
    go_enter Tryz.func147, Tryz.ntmps147
    go_wp2_with fail
    refine c0.mono ?_
    clear c0
    rintro e w2 ⟨rfl, hb2⟩
    have x2 := (hb2.cell (p := ⟨w1.heap.size, 2, none⟩) (hz _)).trans HBX.out
    go_wp2_with fail
    refine (C1.out w2 hb2).mono ?_
    rintro e w3 ⟨rfl, hb3⟩
    go_wp2_with fail
    go_ret
    exact ⟨rfl, tr (tr HA.out hb2) (tr ((Below.refl _ _).alloc (Nat.le_refl _) _) hb3)⟩
  · have e : decide (0 < L) = false := by simpa using h0
    rw [e, Bool.false_and]
    have Q0 : decide ((L : Int) > 0) = false := by simp; omega
    have Q1 : ¬ (0 : Int) < (L : Int) := by omega
    clear e C1 h0
    go_enter Tryz.func147, Tryz.ntmps147
    go_wp2_with fail
    refine c0.mono ?_
    clear c0
    rintro e w2 ⟨rfl, hb2⟩
    go_wp2_with fail
    go_ret
    exact ⟨rfl, tr HA.out hb2⟩
set_option maxHeartbeats 4000000 in
set_option maxRecDepth 100000 in
theorem exno_any (k : Int) (hk : k < 9 ∨ 15 < k) : OneQ 147 [] ok exR w0 (.mk k n kids p) := by
  intro v w1 hb hv
  obtain ⟨y, c, rfl, hrow⟩ := hv
  have hA : Below w1.heap.size w1 (w1.alloc (ndO k n y kids.length c p)) := (Below.refl _ _).alloc (Nat.le_refl _) _
  have HA := Lib.hid hA
  have hE : exR (.mk k n kids p) = false := by
    rw [exR_eq, if_neg (by omega), if_neg (by omega), if_neg (by omega), if_neg (by omega), if_neg (by omega), if_neg (by omega), if_neg (by omega)]
  rw [hE]
  show Calls _ _ _ _ (Yes _ w1)
  simp only [List.append_toArray, List.cons_append, List.nil_append]
  have Q9 : (k == 9) = false := beq_eq_false_iff_ne.2 (by omega)
  have Q10 : (k == 10) = false := beq_eq_false_iff_ne.2 (by omega)
  have Q11 : (k == 11) = false := beq_eq_false_iff_ne.2 (by omega)
  have Q12 : (k == 12) = false := beq_eq_false_iff_ne.2 (by omega)
  have Q13 : (k == 13) = false := beq_eq_false_iff_ne.2 (by omega)
  have Q14 : (k == 14) = false := beq_eq_false_iff_ne.2 (by omega)
  have Q15 : (k == 15) = false := beq_eq_false_iff_ne.2 (by omega)
  clear hrow hb hA hE hk
  go_enter Tryz.func147, Tryz.ntmps147
  go_wp2_with fail
  go_ret
  exact ⟨rfl, HA.out⟩
set_option maxHeartbeats 8000000 in
set_option maxRecDepth 100000 in
include hw hG in
theorem ex9_any : OneQ 147 [] ok exR w0 (.mk 9 n kids p) := by
  intro v w1 hb hv
  obtain ⟨y, c, rfl, hrow⟩ := hv
  generalize c.val = c
  have hlen := len_wtL kids
  have hE : exR (.mk 9 n kids p) = (numR n && decide (kids.length = 0)) := by
    rw [exR_eq]
    cases kids <;> simp
  rw [hE]
  show Calls _ _ _ _ (Yes _ w1)
  simp only [List.append_toArray, List.cons_append, List.nil_append]
  obtain ⟨m, hm⟩ : ∃ m, kids.length = m := ⟨_, rfl⟩
  rw [hm] at hlen ⊢
  have hA : Below w1.heap.size w1 (w1.alloc (ndO 9 n y m c p)) := (Below.refl _ _).alloc (Nat.le_refl _) _
  have c0 := tokens_all ⟨n.toArray⟩ _ ((hG.below hb).below hA)
  have en : (⟨n.toArray⟩ : ByteArray).data.toList = n := rfl
  rw [en] at c0
  have HA := Lib.hid hA
  unfold ndO at c0
  have HM : Hid (m < 2 ^ 40) := by
    show m < 2 ^ 40
    omega
  clear hrow hb hA hw hE hG hm en hlen
  have hz : ∀ o, w1.heap.size < (w1.alloc o).heap.size := fun o => by rw [World.size_alloc]; omega
  have hf := (Box4.new w1 (.int .i64 9) (.string ⟨n.toArray⟩) (.slice y m c) (.int .i64 p)).facts
  have HX : Hid (∀ w2, Below (w1.alloc (.cells #[.int .i64 9, .string ⟨n.toArray⟩, .slice y m c, .int .i64 p] 53)).heap.size (w1.alloc (.cells #[.int .i64 9, .string ⟨n.toArray⟩, .slice y m c, .int .i64 p] 53)) w2 → w2.cell? ⟨w1.heap.size, 1, none⟩ = some (.string ⟨n.toArray⟩) ∧ w2.cell? ⟨w1.heap.size, 2, none⟩ = some (.slice y m c)) := fun w2 hb2 =>
    ⟨(hb2.cell (p := ⟨w1.heap.size, 1, none⟩) (hz _)).trans hf.2.1, (hb2.cell (p := ⟨w1.heap.size, 2, none⟩) (hz _)).trans hf.2.2.1⟩
  clear hf hz
  cases hT : tokensL n with
  | error f =>
    have hN : numR n = false := by unfold numR; rw [hT]
    rw [hT] at c0
    rw [hN, Bool.false_and]
    clear hT hN
    go_enter Tryz.func147, Tryz.ntmps147
    go_wp2_with fail
    refine c0.mono ?_
    clear c0
    rintro e w2 ⟨hb2, b, hb3, rfl, hb4⟩
    obtain ⟨x1, x2⟩ := HX.out w2 hb2
    clear hb4 HX
    go_wp2_with fail
    go_quiet (fail)
    go_wp2_with fail
    go_ret
    exact ⟨rfl, bdn (tr HA.out hb2) _⟩
  | ok ts =>
    rw [hT] at c0
    have hlenT := tokensL_len n ts hT
    by_cases hl1 : ts.length = 1
    · obtain ⟨t, rfl⟩ := List.length_eq_one_iff.1 hl1
      have hN : numR n = (decide (t.1 = 1) && decide (t.2.1 = n)) := by unfold numR; rw [hT]
      rw [hN]
      clear hT hN hl1 hlenT
      have K : ∀ b : Bool, b = (decide (t.1 = 1) && decide (t.2.1 = n) && decide (m = 0)) → (((t.1 : Int) == 1) = false ∧ b = false) ∨ (((t.1 : Int) == 1) = true ∧ (t.2.1 == n) = false ∧ b = false) ∨ (((t.1 : Int) == 1) = true ∧ (t.2.1 == n) = true ∧ ((m : Int) == 0) = false ∧ b = false) ∨ (((t.1 : Int) == 1) = true ∧ (t.2.1 == n) = true ∧ ((m : Int) == 0) = true ∧ b = true) := by
        intro b hb
        by_cases h1 : t.1 = 1
        · have e1 : ((t.1 : Int) == 1) = true := by rw [h1]; rfl
          by_cases h2 : t.2.1 = n
          · have e2 : (t.2.1 == n) = true := by simpa using h2
            by_cases h3 : m = 0
            · exact .inr (.inr (.inr ⟨e1, e2, by rw [h3]; rfl, by rw [hb]; simp [h1, h2, h3]⟩))
            · exact .inr (.inr (.inl ⟨e1, e2, beq_eq_false_iff_ne.2 (by omega), by rw [hb]; simp [h3]⟩))
          · exact .inr (.inl ⟨e1, beq_eq_false_iff_ne.2 h2, by rw [hb]; simp [h2]⟩)
        · exact .inl ⟨beq_eq_false_iff_ne.2 (by omega), by rw [hb]; simp [h1]⟩
      obtain ⟨b, hb⟩ : ∃ b, b = (decide (t.1 = 1) && decide (t.2.1 = n) && decide (m = 0)) := ⟨_, rfl⟩
      have K2 := K b hb
      rw [← hb]
      obtain ⟨t0, t1, t2⟩ := t
      dsimp only at K2
      clear K hb
      rcases K2 with ⟨q1, rfl⟩ | ⟨q1, q2, rfl⟩ | ⟨q1, q2, q3, rfl⟩ | ⟨q1, q2, q3, rfl⟩
      all_goals (
        go_enter Tryz.func147, Tryz.ntmps147
        go_wp2_with fail
        refine c0.mono ?_
        clear c0
        rintro e w2 ⟨hb2, v2, rfl, hown⟩
        obtain ⟨x1, x2⟩ := HX.out w2 hb2
        obtain ⟨g, cap, rfl, _, _, hc⟩ := own_some hown (by simp)
        have y0 : w2.cell? ⟨g, 0, none⟩ = some (.int .i64 t0) := hc 0 (by simp)
        have y1 : w2.cell? ⟨g, 1, none⟩ = some (.string ⟨t1.toArray⟩) := hc 1 (by simp)
        simp only [List.length_singleton]
        clear hown HX hc
        go_wp2_with fail
        go_quiet (fail)
        go_wp2_with fail
        go_ret
        exact ⟨rfl, bdn (tr HA.out hb2) _⟩)
    · have hN : numR n = false := by
        unfold numR
        rw [hT]
        match ts, hl1 with
        | [], _ => rfl
        | [x], h => exact absurd rfl h
        | _ :: _ :: _, _ => rfl
      rw [hN, Bool.false_and]
      have Q : ((ts.length : Int) == 1) = false := beq_eq_false_iff_ne.2 (by omega)
      obtain ⟨nt, hnt⟩ : ∃ nt, ts.length = nt := ⟨_, rfl⟩
      rw [hnt] at Q
      have HNT := Lib.hid hnt
      clear hT hN hl1 hlenT hnt
      go_enter Tryz.func147, Tryz.ntmps147
      go_wp2_with fail
      refine c0.mono ?_
      clear c0
      rintro e w2 ⟨hb2, v2, rfl, hown⟩
      obtain ⟨x1, x2⟩ := HX.out w2 hb2
      obtain ⟨xa, xc, rfl⟩ := own_shape hown
      rw [HNT.out]
      clear hown HX
      go_wp2_with fail
      go_quiet (fail)
      go_wp2_with fail
      go_ret
      exact ⟨rfl, bdn (tr HA.out hb2) _⟩
end
end Go.Proofs.YtpbkeamjdolpgaaGreatDoor
namespace Go.Proofs.YtpbkeamjdolpgaaGreatDoor
open Go.RowKit Go.Lib Go.Shelf

set_option maxHeartbeats 4000000 in
set_option maxRecDepth 100000 in
theorem atom_any (C : Ctx) (ex : Nat → Res Nd) (hx : OneT C 109 ex) (f : Nat) (hf : f ≤ 8192) : OneT C 194 (atomO C.ts C.s.size ex f) := by
  intro w p h _ hne
  have hmf : ∀ (fn : Fn) (first cap : Array Value) (w : World), (Instr.makeFunc fn first cap).run Tryz.prog w = .ok (.func fn first cap) w := fun _ _ _ _ => rfl
  have F0 := fld0
  have F1 := fld1
  have F2 := fld2
  have hpb := h.lt
  have eg := enters_of Tryz.func109 (by kernel_rfl) rfl
  obtain ⟨pl, hpl⟩ : ∃ pl, placeT C.ts C.s.size p = pl := ⟨_, rfl⟩
  obtain ⟨kd, hkd⟩ : ∃ kd, kindT C.ts p = kd := ⟨_, rfl⟩
  obtain ⟨tx, htx⟩ : ∃ tx, textT C.ts p = tx := ⟨_, rfl⟩
  have hsz0 := World.size_alloc w zNode
  have hA : Ow C.pb w (w.alloc zNode) := (Ow.refl _ _).alloc _
  have hsA : PSt C (w.alloc zNode) p := h.below ((Below.refl _ _).alloc (Nat.le_refl _) _)
  have hne0 : w.heap.size ≠ C.pb := by omega
  have H0 := Lib.hid h
  have HA := Lib.hid hA
  obtain ⟨R, hR⟩ : ∃ R, atomO C.ts C.s.size ex f p = R := ⟨_, rfl⟩
  have EA : Hid (isT C.ts p [40] = true → R = (ex (p + 1)).bind fun x q => (takeP C.ts C.s.size [41] q).bind fun _ e => .ok x e) := fun h1 => by rw [← hR]; unfold atomO; rw [h1]; rfl
  have EB : Hid (isT C.ts p [40] = false → isT C.ts p [91] = true → R = (rowG C.ts C.s.size ex f [93] (p + 1)).bind fun l q => .ok (.mk 11 [] l pl) q) := fun h1 h2 => by rw [← hR]; unfold atomO; rw [h1, h2, hpl]; rfl
  have EC : Hid (isT C.ts p [40] = false → isT C.ts p [91] = false → kd = 1 → R = .ok (.mk 9 tx [] pl) (p + 1)) := fun h1 h2 h3 => by rw [← hR]; unfold atomO; rw [h1, h2, hpl, hkd, h3, htx]; rfl
  have ED : Hid (isT C.ts p [40] = false → isT C.ts p [91] = false → kd ≠ 1 → R = (nameP C.ts p).bind fun s q => if isT C.ts q [40] then (argsO C.ts C.s.size ex f q).bind fun a r => .ok (.mk 13 s [a] pl) r else .ok (.mk 10 s [] pl) q) := fun h1 h2 h3 => by rw [← hR]; unfold atomO; rw [h1, h2, hpl, hkd]; simp only [Bool.false_eq_true, if_false, if_neg h3]
  rw [hR] at hne ⊢
  have hZ : Box4 (w.alloc zNode) w.heap.size (.int .i64 0) (.string ⟨#[]⟩) (.slice none 0 0) (.int .i64 0) := Box4.new w _ _ _ _
  have c0 := token_x C p _ hsA _ (fun w1 ho => hZ.x ho hne0)
  rw [hpl, hkd, htx] at c0
  have HNE := Lib.hid hne
  have HHX := Lib.hid hx
  have HPL := Lib.hid hpl
  have HKD := Lib.hid hkd
  have HTX := Lib.hid htx
  clear hR hne h hA hsA hx hZ hpl hkd htx
  go_enter Tryz.func194, Tryz.ntmps194
  go_wp2_with fail
  refine c0.mono ?_
  clear c0
  rintro e w1 ⟨rfl, hs1, ho1, ⟨z0, z1, z2, z3, zf⟩, HZ⟩
  have hlt := ho1.size
  rw [hsz0] at hlt
  go_wp2_with fail
  have hne1 : w1.heap.size ≠ C.pb := by omega
  have HZ2 := HZ.out.alloc (.cells #[.int .i64 0, .string ⟨#[]⟩, .slice none 0 0, .int .i64 pl] 53)
  have HN2 := Box4.new w1 (.int .i64 0) (.string ⟨#[]⟩) (.slice none 0 0) (.int .i64 pl)
  have hs2 := hs1.below ((Below.refl _ _).alloc (Nat.le_refl _) (.cells #[.int .i64 0, .string ⟨#[]⟩, .slice none 0 0, .int .i64 pl] 53))
  have HO2 := Lib.hid ((HA.out.trans ho1).alloc (.cells #[.int .i64 0, .string ⟨#[]⟩, .slice none 0 0, .int .i64 pl] 53))
  have c1 := skip_x C p [40] _ hs2 _ (fun w' ho => And.intro (HZ2.x ho hne0) (HN2.x ho hne1))
  clear hs2 HZ2 HN2 HZ z0 z1 z2 z3 zf hs1 ho1
  refine c1.mono ?_
  clear c1
  rintro e w3 (⟨hB1, rfl, hs3, ho3, ⟨⟨z0, z1, z2, z3, zf⟩, HZ⟩, ⟨n0, n1, n2, n3, nf⟩, HN⟩ | ⟨hB1, rfl, hs3, ho3, ⟨⟨z0, z1, z2, z3, zf⟩, HZ⟩, ⟨n0, n1, n2, n3, nf⟩, HN⟩)
  · -- something in parentheses
    have HB1 := Lib.hid hB1
    have E := Lib.hid (EA.out hB1)
    have hx0 : ex (p + 1) ≠ .out := fun e => HNE.out (by rw [E.out, e]; rfl)
    have c2 := node_x (HHX.out w3 (p + 1) hs3 trivial hx0) _ (fun w' ho => HZ.out.x ho hne0)
    have HS3 := Lib.hid hs3
    have HO3 := Lib.hid (HO2.out.trans ho3)
    have hsz3 := HO3.out.size
    have hlt3 : w.heap.size < w3.heap.size := by have := HZ.out.lt; omega
    clear hB1 hx0 hs3 ho3 n0 n1 n2 n3 nf HN HZ z0 z1 z2 z3 zf
    go_wp2_with fail
    refine c2.mono ?_
    clear c2
    rintro e w4 (⟨k, n, kids, pp, y, c, q, hr4, rfl, hk4, hs4, ho4, ⟨z0, z1, z2, z3, zf⟩, HZ⟩ | ⟨q, hr4, b, hd1, rfl, hd3, hd4⟩)
    · have HR4 := Lib.hid hr4
      have hlt4 := ho4.size
      have hne4 : w4.heap.size ≠ C.pb := by omega
      have c3 := take_x C q [41] _ (hs4.below ((Below.refl _ _).alloc (Nat.le_refl _) (.cells #[.int .i64 k, .string ⟨n.toArray⟩, .slice y kids.length c, .int .i64 pp] 53))) _
        (fun w' ho => And.intro ((HZ.out.alloc _).x ho hne0) (And.intro ((Box4.new w4 (.int .i64 k) (.string ⟨n.toArray⟩) (.slice y kids.length c) (.int .i64 pp)).x ho hne4) ((hk4.alloc _).ow ho (fun b hb => by omega))))
      have HO4 := Lib.hid ((HO3.out.trans ho4).alloc (.cells #[.int .i64 k, .string ⟨n.toArray⟩, .slice y kids.length c, .int .i64 pp] 53))
      clear hr4 hk4 hs4 ho4
      go_wp2_with fail
      refine c3.mono ?_
      clear c3
      rintro e w5 (⟨q5, hr5, rfl, hs5, ho5, ⟨⟨z0', z1', z2', z3', zf'⟩, _⟩, ⟨⟨x0, x1, x2, x3, xf⟩, _⟩, hk5⟩ | ⟨hr5, b, hd1, rfl, hd3, hd4⟩)
      · have HR5 := Lib.hid hr5
        have HK5 := Lib.hid hk5
        clear hr5 hk5
        go_wp2_with fail
        refine ret_node rfl rfl rfl (by simp [go_sem, z0']) (by simp [go_sem, z1']) (by simp [go_sem, z2']) (by simp [go_sem, z3']) (.inl ⟨k, n, kids, pp, y, c, q5, ?_, rfl, (HK5.out.set4 (fun b hb => by omega)).wide (fun b hb _ => by omega), H0.out.keep hs5 ((Kp.refl _ _).set4 (Nat.le_refl _)), (HO4.out.trans ho5).set4 (Nat.le_refl _)⟩)
        rw [E.out, HR4.out]
        simp only [Res.bind]
        rw [HR5.out]
      · refine ⟨rfl, .inr ⟨q, ?_, b, Nat.le_trans HO4.out.size hd1, rfl, hd3, HO4.out.trans hd4⟩⟩
        rw [E.out, HR4.out]
        simp only [Res.bind]
        rw [hr5]
    · refine ⟨rfl, .inr ⟨q, ?_, b, Nat.le_trans HO3.out.size hd1, rfl, hd3, HO3.out.trans hd4⟩⟩
      rw [E.out, hr4]
      rfl
  · have HB1 := Lib.hid hB1
    have c2 := skip_x C p [91] w3 hs3 _ (fun w' ho => And.intro (HZ.out.x ho hne0) (HN.out.x ho hne1))
    have HO3 := Lib.hid (HO2.out.trans ho3)
    have hlt3 : w1.heap.size < w3.heap.size := HN.out.lt
    clear hB1 hs3 ho3 n0 n1 n2 n3 nf HN HZ z0 z1 z2 z3 zf HO2
    go_wp2_with fail
    refine c2.mono ?_
    clear c2
    rintro e w4 (⟨hB2, rfl, hs4, ho4, ⟨⟨z0, z1, z2, z3, zf⟩, HZ⟩, ⟨n0, n1, n2, n3, nf⟩, HN⟩ | ⟨hB2, rfl, hs4, ho4, ⟨⟨z0, z1, z2, z3, zf⟩, HZ⟩, ⟨n0, n1, n2, n3, nf⟩, HN⟩)
    · -- a list
      have E := Lib.hid (EB.out HB1.out hB2)
      have hx0 : rowG C.ts C.s.size ex f [93] (p + 1) ≠ .out := fun e => HNE.out (by rw [E.out, e]; rfl)
      have c3 := row_x (row_any C 109 #[.pointer (some ⟨C.pb, 0, none⟩)] #[] (fun _ => True) (fun a b h1 h2 => trivial) eg ex (by simpa using HHX.out) f hf [93] (p + 1) w4 hs4 trivial hx0) _ (fun w' ho => And.intro (HZ.out.x ho hne0) (HN.out.x ho hne1))
      have HO4 := Lib.hid (HO3.out.trans ho4)
      have hlt4 : w1.heap.size < w4.heap.size := HN.out.lt
      clear hB2 hx0 hs4 ho4 n0 n1 n2 n3 nf HN HZ z0 z1 z2 z3 zf
      go_wp2_with fail
      refine c3.mono ?_
      clear c3
      rintro e w5 (⟨l, y, c, q, hr5, rfl, hk5, hs5, ho5, ⟨⟨z0, z1, z2, z3, zf⟩, HZ⟩, ⟨n0, n1, n2, n3, nf⟩, HN⟩ | ⟨q, hr5, b, hd1, rfl, hd3, hd4⟩)
      · have HR5 := Lib.hid hr5
        have HK5 := Lib.hid hk5
        have hneb : w.heap.size ≠ w1.heap.size := by omega
        clear hr5 hk5
        go_wp2_with fail
        refine ret_node rfl rfl rfl (by simp [go_sem, z0]) (by simp [go_sem, z1]) (by simp [go_sem, z2]) (by simp [go_sem, z3]) (.inl ⟨11, [], l, pl, y, c, q, ?_, rfl, (((HK5.out.set (fun b hb => by omega)).set (fun b hb => by omega)).set4 (fun b hb => by omega)).wide (fun b hb _ => by omega), H0.out.keep hs5 ((((Kp.refl _ _).set (by omega)).set (by omega)).set4 (Nat.le_refl _)), (((HO4.out.trans ho5).set (by omega)).set (by omega)).set4 (Nat.le_refl _)⟩)
        rw [E.out, HR5.out]
        rfl
      · refine ⟨rfl, .inr ⟨q, ?_, b, Nat.le_trans HO4.out.size hd1, rfl, hd3, HO4.out.trans hd4⟩⟩
        rw [E.out, hr5]
        rfl
    · have HB2 := Lib.hid hB2
      have c3 := token_x C p w4 hs4 _ (fun w' ho => And.intro (HZ.out.x ho hne0) (HN.out.x ho hne1))
      rw [HPL.out, HKD.out, HTX.out] at c3
      have HO4 := Lib.hid (HO3.out.trans ho4)
      have hlt4 : w1.heap.size < w4.heap.size := HN.out.lt
      clear hB2 hs4 ho4 n0 n1 n2 n3 nf HN HZ z0 z1 z2 z3 zf HO3
      go_wp2_with fail
      refine c3.mono ?_
      clear c3
      rintro e w5 ⟨rfl, hs5, ho5, ⟨⟨z0, z1, z2, z3, zf⟩, HZ⟩, ⟨n0, n1, n2, n3, nf⟩, HN⟩
      by_cases h1 : kd = 1
      · -- a number
        have E := Lib.hid (EC.out HB1.out HB2.out h1)
        have c4 := token_x C p w5 hs5 _ (fun w' ho => And.intro (HZ.out.x ho hne0) (HN.out.x ho hne1))
        rw [HPL.out, HKD.out, HTX.out] at c4
        have HO5 := Lib.hid (HO4.out.trans ho5)
        have hlt5 : w1.heap.size < w5.heap.size := HN.out.lt
        subst h1
        have hpn : p < C.ts.length := kindT_lt (by rw [HKD.out]; decide)
        have hpl' := hs5.len
        have X1 : IntKind.i64.wrap ((p : Int) + 1) = (p : Int) + 1 := IntWalk.i64_in _ (by omega)
        have HPN := Lib.hid hpn
        clear hs5 ho5 n0 n1 n2 n3 nf HN HZ z0 z1 z2 z3 zf hpn hpl'
        go_wp2_with fail
        refine c4.mono ?_
        clear c4
        rintro e w6 ⟨rfl, hs6, ho6, ⟨⟨z0, z1, z2, z3, zf⟩, HZ⟩, ⟨n0, n1, n2, n3, nf⟩, HN⟩
        obtain ⟨_, _, k2, kf⟩ := hs6.cells
        have hneb : w.heap.size ≠ w1.heap.size := by omega
        have hne1' : C.pb ≠ w1.heap.size := by omega
        have hne0' : C.pb ≠ w.heap.size := by omega
        have HS6 := Lib.hid hs6
        have HO6 := Lib.hid (HO5.out.trans ho6)
        clear hs6 ho6
        go_wp2_with fail
        refine ret_node rfl rfl rfl (by simp [go_sem, z0]) (by simp [go_sem, z1]) (by simp [go_sem, z2]) (by simp [go_sem, z3]) (.inl ⟨9, tx, [], pl, none, ⟨0, Nat.le_refl _⟩, p + 1, E.out, rfl, trivial, H0.out.keep ((H0.out.keep HS6.out (((Kp.refl _ _).set (by omega)).set (by omega))).step (q := p + 1) HPN.out) ((Kp.refl _ _).set4 (Nat.le_refl _)), ((((HO6.out.set (by omega)).set (by omega)).setCell (a := ⟨C.pb, 2, none⟩) (.inl rfl) _).set4 (Nat.le_refl _))⟩)
      · -- a name, perhaps a call
        have E := Lib.hid (ED.out HB1.out HB2.out h1)
        have Q : (kd == 1) = false := beq_eq_false_iff_ne.2 h1
        have c4 := name_x C p w5 hs5 _ (fun w' ho => And.intro (HZ.out.x ho hne0) (HN.out.x ho hne1))
        rw [HTX.out] at c4
        have HO5 := Lib.hid (HO4.out.trans ho5)
        have hlt5 : w1.heap.size < w5.heap.size := HN.out.lt
        clear hs5 ho5 n0 n1 n2 n3 nf HN HZ z0 z1 z2 z3 zf h1
        go_wp2_with fail
        refine c4.mono ?_
        clear c4
        rintro e w6 (⟨q, hr6, rfl, hs6, ho6, ⟨⟨z0, z1, z2, z3, zf⟩, HZ⟩, ⟨n0, n1, n2, n3, nf⟩, HN⟩ | ⟨hr6, b, hd1, rfl, hd3, hd4⟩)
        · have HR6 := Lib.hid hr6
          have HS6 := Lib.hid hs6
          have HO6 := Lib.hid (HO5.out.trans ho6)
          have hlt6 : w1.heap.size < w6.heap.size := HN.out.lt
          have hneb : w.heap.size ≠ w1.heap.size := by omega
          clear hr6 hs6 ho6
          go_wp2_with fail
          have hs7 : PSt C ((w6.setCell ⟨w1.heap.size, 0, none⟩ (.int .i64 10)).setCell ⟨w1.heap.size, 1, none⟩ (.string ⟨tx.toArray⟩)) q := H0.out.keep HS6.out (((Kp.refl _ _).set (by omega)).set (by omega))
          have HZ7 := Box4.other (k := w1.heap.size) (o := 1) (v := .string ⟨tx.toArray⟩) (Box4.other (k := w1.heap.size) (o := 0) (v := .int .i64 10) HZ.out hneb) hneb
          have HN7 := Box4.set1 (v := .string ⟨tx.toArray⟩) (Box4.set0 (v := .int .i64 10) HN.out)
          have c5 := is_x C q [40] _ hs7 _ (fun w' ho => And.intro (HZ7.x ho hne0) (HN7.x ho hne1))
          have HO7 : Hid (Ow C.pb w ((w6.setCell ⟨w1.heap.size, 0, none⟩ (.int .i64 10)).setCell ⟨w1.heap.size, 1, none⟩ (.string ⟨tx.toArray⟩))) := Lib.hid ((HO6.out.set (by omega)).set (by omega))
          have hlt7 : w1.heap.size < ((w6.setCell ⟨w1.heap.size, 0, none⟩ (.int .i64 10)).setCell ⟨w1.heap.size, 1, none⟩ (.string ⟨tx.toArray⟩)).heap.size := HN7.lt
          have HL7 := Lib.hid hlt7
          clear n0 n1 n2 n3 nf HN HZ z0 z1 z2 z3 zf hs7 HZ7 HN7 HS6 HO6 hlt7
          refine c5.mono ?_
          clear c5
          rintro e w8 (⟨hB3, rfl, hs8, ho8, ⟨⟨z0, z1, z2, z3, zf⟩, HZ⟩, ⟨n0, n1, n2, n3, nf⟩, HN⟩ | ⟨hB3, rfl, hs8, ho8, ⟨⟨z0, z1, z2, z3, zf⟩, HZ⟩, ⟨n0, n1, n2, n3, nf⟩, HN⟩)
          · have hx0 : argsO C.ts C.s.size ex f q ≠ .out := fun e => HNE.out (by rw [E.out, HR6.out]; simp only [Res.bind]; rw [hB3, e]; rfl)
            have c6 := node_x (args_any C ex HHX.out f hf w8 q hs8 trivial hx0) _ (fun w' ho => And.intro (HZ.out.x ho hne0) (HN.out.x ho hne1))
            have HB3 := Lib.hid hB3
            have HO8 := Lib.hid (HO7.out.trans ho8)
            have hlt8 : w1.heap.size < w8.heap.size := HN.out.lt
            clear hB3 hx0 hs8 ho8 n0 n1 n2 n3 nf HN HZ z0 z1 z2 z3 zf HO7
            go_wp2_with fail
            refine c6.mono ?_
            clear c6
            rintro e w9 (⟨k, n, kids, pp, y, c, q9, hr9, rfl, hk9, hs9, ho9, ⟨⟨z0, z1, z2, z3, zf⟩, HZ⟩, ⟨n0, n1, n2, n3, nf⟩, HN⟩ | ⟨q9, hr9, b, hd1, rfl, hd3, hd4⟩)
            · have HR9 := Lib.hid hr9
              have HK9 := Lib.hid hk9
              have hlt9 := ho9.size
              have m0 := fun o => al_cell z0 o
              have m1 := fun o => al_cell z1 o
              have m2 := fun o => al_cell z2 o
              have m3 := fun o => al_cell z3 o
              have l0 := fun o => al_cell n0 o
              have l1 := fun o => al_cell n1 o
              have l2 := fun o => al_cell n2 o
              have l3 := fun o => al_cell n3 o
              have mf := fun ob o => ((HZ.out.alloc ob).facts).2.2.2.2 o
              have lf := fun ob o => ((HN.out.alloc ob).facts).2.2.2.2 o
              clear hr9 hk9
              go_wp2_with fail
              have hB9 : w8.heap.size ≤ w9.heap.size := ho9.size
              refine ret_node rfl rfl rfl (by simp [go_sem, m0]) (by simp [go_sem, m1]) (by simp [go_sem, m2]) (by simp [go_sem, m3]) (.inl ⟨13, tx, [.mk k n kids pp], pl, some ⟨w9.heap.size, 0, none⟩, ⟨1, Nat.le_refl _⟩, q9, ?_, rfl,
                ((((NdRow.build hB9 (NFlat.one (HK9.out.cells (k := k) (n := n) (p := pp) (c := c)))).set (fun b hb => by omega)).set (fun b hb => by omega)).set4 (fun b hb => by omega)).wide (fun b hb _ => by omega),
                H0.out.keep hs9 (((((Kp.refl _ _).alloc (by omega) _).set (by omega)).set (by omega)).set4 (Nat.le_refl _)), ((((HO8.out.trans ho9).alloc _).set (by omega)).set (by omega)).set4 (Nat.le_refl _)⟩)
              rw [E.out, HR6.out]
              simp only [Res.bind]
              rw [HB3.out, if_pos rfl, HR9.out]
            · refine ⟨rfl, .inr ⟨q9, ?_, b, Nat.le_trans HO8.out.size hd1, rfl, hd3, HO8.out.trans hd4⟩⟩
              rw [E.out, HR6.out]
              simp only [Res.bind]
              rw [HB3.out, if_pos rfl, hr9]
          · have HB3 := Lib.hid hB3
            clear hB3
            go_wp2_with fail
            refine ret_node rfl rfl rfl (by simp [go_sem, z0]) (by simp [go_sem, z1]) (by simp [go_sem, z2]) (by simp [go_sem, z3]) (.inl ⟨10, tx, [], pl, none, ⟨0, Nat.le_refl _⟩, q, ?_, rfl, trivial, H0.out.keep hs8 ((Kp.refl _ _).set4 (Nat.le_refl _)), (HO7.out.trans ho8).set4 (Nat.le_refl _)⟩)
            rw [E.out, HR6.out]
            simp only [Res.bind]
            rw [HB3.out]
            rfl
        · refine ⟨rfl, .inr ⟨p, ?_, b, Nat.le_trans HO5.out.size hd1, rfl, hd3, HO5.out.trans hd4⟩⟩
          rw [E.out, hr6]
          rfl
end Go.Proofs.YtpbkeamjdolpgaaGreatDoor
namespace Go.Proofs.YtpbkeamjdolpgaaGreatDoor
open Go.RowKit Go.Lib Go.Shelf

theorem own_set4 {w : World} {base g n cap : Nat} {e : TypeId} {xs : List Value} {a b c d v0 v1 v2 v3 : Value} (h : w.ownsRow base e 4 (.slice (some ⟨g, 0, none⟩) (n + 1) cap) (n + 1) (xs ++ [a, b, c, d])) (hx : xs.length = n * 4) :
    ((((w.setCell ⟨g, n * 4, none⟩ v0).setCell ⟨g, n * 4 + 1, none⟩ v1).setCell ⟨g, n * 4 + 2, none⟩ v2).setCell ⟨g, n * 4 + 3, none⟩ v3).ownsRow base e 4 (.slice (some ⟨g, 0, none⟩) (n + 1) cap) (n + 1) (xs ++ [v0, v1, v2, v3]) := by
  obtain ⟨h1, h2⟩ := h
  rcases h2 with ⟨_, h0⟩ | ⟨g', cap', cur, hv, hb, hg, hn, hm, hs, ht⟩
  · omega
  · cases hv
    refine ⟨by simpa using h1, .inr ⟨g, cap, (((cur.setIfInBounds (n * 4) v0).setIfInBounds (n * 4 + 1) v1).setIfInBounds (n * 4 + 2) v2).setIfInBounds (n * 4 + 3) v3, rfl, hb, ?_, hn, hm, by simpa using hs, ?_⟩⟩
    · simp [World.setCell, Array.getElem?_modify, hg]
    · simp only [Array.toList_setIfInBounds, List.take_set, ht]
      simp [hx]
theorem own_top {w : World} {base g n cap : Nat} {e : TypeId} {xs : List Value} {a b c d : Value} (h : w.ownsRow base e 4 (.slice (some ⟨g, 0, none⟩) (n + 1) cap) (n + 1) (xs ++ [a, b, c, d])) (hx : xs.length = n * 4) :
    w.cell? ⟨g, n * 4, none⟩ = some a ∧ w.cell? ⟨g, n * 4 + 1, none⟩ = some b ∧ w.cell? ⟨g, n * 4 + 2, none⟩ = some c ∧ w.cell? ⟨g, n * 4 + 3, none⟩ = some d ∧ ∀ o, w.frozen? ⟨g, o, none⟩ = false := by
  have hc := h.cells (g := g) rfl
  have hf : ∀ o, w.frozen? ⟨g, o, none⟩ = false := by
    rcases h.2 with ⟨_, h0⟩ | ⟨g', cap', cur, hv, hb, hg, _⟩
    · omega
    · cases hv
      intro o
      simp [World.frozen?, hg]
  have hk : ∀ j u, [a, b, c, d][j]? = some u → w.cell? ⟨g, n * 4 + j, none⟩ = some u := fun j u hj => by
    have := hc (n * 4 + j) u (by rw [List.getElem?_append_right (by omega), hx, Nat.add_sub_cancel_left]; exact hj)
    rwa [Addr.add_lit, Nat.zero_add] at this
  exact ⟨hk 0 _ rfl, hk 1 _ rfl, hk 2 _ rfl, hk 3 _ rfl, hf⟩
theorem keep_far {w w' : World} {row : Option Nat} {b : Nat} {v0 v1 v2 v3 : Value} (h : Box4 w b v0 v1 v2 v3) (hg : w.grownBy w' row) (hn : some b ≠ row) : Box4 w' b v0 v1 v2 v3 := (hg.block b h.lt hn).trans h
theorem Ow.belowB {b B : Nat} {w0 w w' : World} (h : Ow b w0 w) (k : Below B w w') (hB : w0.heap.size ≤ B) : Ow b w0 w' :=
  ⟨k.os.trans h.os, k.tape.trans h.tape, k.output.trans h.output, Nat.le_trans h.size k.size, fun i hi hn => (k.block i (by omega)).trans (h.block i hi hn)⟩

theorem add_facts {w w6 : World} {bn H base g n cap : Nat} {e : TypeId} {va : Option Addr} {vc : Nat} {xs : List Value} {v0 v1 v3 k0 k1 k2 k3 z0 z1 z2 z3 : Value} (hB : Box4 w6 bn v0 v1 (.slice va n vc) v3) (hK : Box4 w6 H k0 k1 k2 k3) (ho : w6.ownsRow base e 4 (.slice (some ⟨g, 0, none⟩) (n + 1) cap) (n + 1) (xs ++ [z0, z1, z2, z3])) (_hgr : w.grownBy w6 (Value.slice va n vc).ownBlock) (hat : (Value.slice va n vc).ownBlock = some g ∨ g = w.heap.size) (_hlt : g < w6.heap.size) (hxl : xs.length = n * 4) (hsz : w.heap.size = H + 1 + 1) (hbH : bn < H) (hown : ∀ k, (Value.slice va n vc).ownBlock = some k → bn + 1 ≤ k ∧ k < H) :
    g ≠ bn ∧ bn ≠ g ∧ (w6.cell? ⟨g, n * 4, none⟩ = some z0 ∧ w6.cell? ⟨g, n * 4 + 1, none⟩ = some z1 ∧ w6.cell? ⟨g, n * 4 + 2, none⟩ = some z2 ∧ w6.cell? ⟨g, n * 4 + 3, none⟩ = some z3 ∧ ∀ o, w6.frozen? ⟨g, o, none⟩ = false) ∧
    (∀ v, (w6.setCell ⟨bn, 2, none⟩ v).cell? ⟨g, n * 4, none⟩ = some z0 ∧ (w6.setCell ⟨bn, 2, none⟩ v).cell? ⟨g, n * 4 + 1, none⟩ = some z1 ∧ (w6.setCell ⟨bn, 2, none⟩ v).cell? ⟨g, n * 4 + 2, none⟩ = some z2 ∧ (w6.setCell ⟨bn, 2, none⟩ v).cell? ⟨g, n * 4 + 3, none⟩ = some z3 ∧ ∀ o, (w6.setCell ⟨bn, 2, none⟩ v).frozen? ⟨g, o, none⟩ = false) ∧
    (w6.cell? ⟨bn, 2, none⟩ = some (.slice va n vc) ∧ ∀ o, w6.frozen? ⟨bn, o, none⟩ = false) ∧
    (∀ a b c d, ((((w6.setCell ⟨g, n * 4, none⟩ a).setCell ⟨g, n * 4 + 1, none⟩ b).setCell ⟨g, n * 4 + 2, none⟩ c).setCell ⟨g, n * 4 + 3, none⟩ d).cell? ⟨bn, 2, none⟩ = some (.slice va n vc) ∧ ∀ o, ((((w6.setCell ⟨g, n * 4, none⟩ a).setCell ⟨g, n * 4 + 1, none⟩ b).setCell ⟨g, n * 4 + 2, none⟩ c).setCell ⟨g, n * 4 + 3, none⟩ d).frozen? ⟨bn, o, none⟩ = false) ∧
    (w6.cell? ⟨H, 0, none⟩ = some k0 ∧ w6.cell? ⟨H, 1, none⟩ = some k1 ∧ w6.cell? ⟨H, 2, none⟩ = some k2 ∧ w6.cell? ⟨H, 3, none⟩ = some k3) ∧
    (∀ v, (w6.setCell ⟨bn, 2, none⟩ v).cell? ⟨H, 0, none⟩ = some k0 ∧ (w6.setCell ⟨bn, 2, none⟩ v).cell? ⟨H, 1, none⟩ = some k1 ∧ (w6.setCell ⟨bn, 2, none⟩ v).cell? ⟨H, 2, none⟩ = some k2 ∧ (w6.setCell ⟨bn, 2, none⟩ v).cell? ⟨H, 3, none⟩ = some k3) := by
  have hg1 : g ≠ bn := by
    rcases hat with h | h
    · have := hown g h; omega
    · omega
  obtain ⟨t0, t1, t2, t3, tf⟩ := own_top ho hxl
  obtain ⟨_, _, b2, _, bf⟩ := hB.facts
  obtain ⟨c0, c1, c2, c3, cf⟩ := hK.facts
  have hs : ∀ v, (w6.setCell ⟨bn, 2, none⟩ v).heap[g]? = w6.heap[g]? := fun v => Below.heap_setCell _ _ _ _ hg1
  have hs2 : ∀ v, (w6.setCell ⟨bn, 2, none⟩ v).heap[H]? = w6.heap[H]? := fun v => Below.heap_setCell _ _ _ _ (show H ≠ bn by omega)
  have hs4 : ∀ a b c d, ((((w6.setCell ⟨g, n * 4, none⟩ a).setCell ⟨g, n * 4 + 1, none⟩ b).setCell ⟨g, n * 4 + 2, none⟩ c).setCell ⟨g, n * 4 + 3, none⟩ d).heap[bn]? = w6.heap[bn]? := fun a b c d => by
    rw [Below.heap_setCell _ _ _ _ (show bn ≠ g by omega), Below.heap_setCell _ _ _ _ (show bn ≠ g by omega), Below.heap_setCell _ _ _ _ (show bn ≠ g by omega), Below.heap_setCell _ _ _ _ (show bn ≠ g by omega)]
  have kc : ∀ (w1 : World) (b o : Nat) (u : Value), w1.heap[b]? = w6.heap[b]? → w6.cell? ⟨b, o, none⟩ = some u → w1.cell? ⟨b, o, none⟩ = some u := fun w1 b o u he hc => by
    rw [World.cell?_of_block (a := ⟨b, o, none⟩) he]
    exact hc
  have kf : ∀ (w1 : World) (b o : Nat), w1.heap[b]? = w6.heap[b]? → w6.frozen? ⟨b, o, none⟩ = false → w1.frozen? ⟨b, o, none⟩ = false := fun w1 b o he hc => by
    rw [World.frozen?_of_block (a := ⟨b, o, none⟩) he]
    exact hc
  refine ⟨hg1, Ne.symm hg1, ⟨t0, t1, t2, t3, tf⟩, fun v => ?_, ⟨b2, bf⟩, fun a b c d => ?_, ⟨c0, c1, c2, c3⟩, fun v => ?_⟩
  · exact ⟨kc _ _ _ _ (hs v) t0, kc _ _ _ _ (hs v) t1, kc _ _ _ _ (hs v) t2, kc _ _ _ _ (hs v) t3, fun o => kf _ _ _ (hs v) (tf o)⟩
  · exact ⟨kc _ _ _ _ (hs4 a b c d) b2, fun o => kf _ _ _ (hs4 a b c d) (bf o)⟩
  · exact ⟨kc _ _ _ _ (hs2 v) c0, kc _ _ _ _ (hs2 v) c1, kc _ _ _ _ (hs2 v) c2, kc _ _ _ _ (hs2 v) c3⟩
theorem setCell_comm (w : World) (a b : Addr) (u v : Value) (h : a.block ≠ b.block) : (w.setCell a u).setCell b v = (w.setCell b v).setCell a u := by
  have hh : ((w.setCell a u).setCell b v).heap = ((w.setCell b v).setCell a u).heap := by
    apply Array.ext_getElem?
    intro i
    simp only [World.setCell, Array.getElem?_modify]
    by_cases h1 : a.block = i <;> by_cases h2 : b.block = i
    · omega
    · simp [h1, h2]
    · simp [h1, h2]
    · simp [h1, h2]
  unfold World.setCell at hh ⊢
  simp only at hh ⊢
  rw [hh]
theorem setCell_comm4 (w : World) (bn g n : Nat) (a b c d v : Value) (h : bn ≠ g) : ((((w.setCell ⟨bn, 2, none⟩ v).setCell ⟨g, n * 4, none⟩ a).setCell ⟨g, n * 4 + 1, none⟩ b).setCell ⟨g, n * 4 + 2, none⟩ c).setCell ⟨g, n * 4 + 3, none⟩ d = ((((w.setCell ⟨g, n * 4, none⟩ a).setCell ⟨g, n * 4 + 1, none⟩ b).setCell ⟨g, n * 4 + 2, none⟩ c).setCell ⟨g, n * 4 + 3, none⟩ d).setCell ⟨bn, 2, none⟩ v := by
  rw [setCell_comm w ⟨bn, 2, none⟩ ⟨g, n * 4, none⟩ v a h, setCell_comm _ ⟨bn, 2, none⟩ ⟨g, n * 4 + 1, none⟩ v b h, setCell_comm _ ⟨bn, 2, none⟩ ⟨g, n * 4 + 2, none⟩ v c h, setCell_comm _ ⟨bn, 2, none⟩ ⟨g, n * 4 + 3, none⟩ v d h]
theorem add_done {w w2 w6 : World} {bn g n cap : Nat} {va : Option Addr} {vc : Nat} {xs : List Value} {v0 v1 v3 z0 z1 z2 z3 : Value} {acc : List Nd} {k : Int} {nm : List UInt8} {kids : List Nd} {p : Int} {y : Option Addr} {c : Cp kids.length} (hw : Below w.heap.size w w2) (hla : acc.length = n) (hB : Box4 w6 bn v0 v1 (.slice va n vc) v3) (ho : w6.ownsRow (bn + 1) 53 4 (.slice (some ⟨g, 0, none⟩) (n + 1) cap) (n + 1) (xs ++ [z0, z1, z2, z3])) (hgr : w2.grownBy w6 (Value.slice va n vc).ownBlock) (hat : (Value.slice va n vc).ownBlock = some g ∨ g = w2.heap.size) (hxl : xs.length = n * 4) (hbH : bn < w.heap.size) (hown : ∀ k, (Value.slice va n vc).ownBlock = some k → bn + 1 ≤ k ∧ k < w.heap.size)
    (hfl : NFlat w (fun k => bn + 1 ≤ k ∧ some k ≠ (Value.slice va n vc).ownBlock) acc xs) (hk : NdRow w (fun b => bn + 1 ≤ b ∧ some b ≠ (Value.slice va n vc).ownBlock) kids y) :
    ∃ v', Box4 (((((w6.setCell ⟨g, n * 4, none⟩ (.int .i64 k)).setCell ⟨g, n * 4 + 1, none⟩ (.string ⟨nm.toArray⟩)).setCell ⟨g, n * 4 + 2, none⟩ (.slice y kids.length c)).setCell ⟨g, n * 4 + 3, none⟩ (.int .i64 p)).setCell ⟨bn, 2, none⟩ (.slice (some ⟨g, 0, none⟩) (n + 1) cap)) bn v0 v1 v' v3 ∧ RowOwn (((((w6.setCell ⟨g, n * 4, none⟩ (.int .i64 k)).setCell ⟨g, n * 4 + 1, none⟩ (.string ⟨nm.toArray⟩)).setCell ⟨g, n * 4 + 2, none⟩ (.slice y kids.length c)).setCell ⟨g, n * 4 + 3, none⟩ (.int .i64 p)).setCell ⟨bn, 2, none⟩ (.slice (some ⟨g, 0, none⟩) (n + 1) cap)) (bn + 1) v' (acc ++ [.mk k nm kids p]) ∧ Below bn w (((((w6.setCell ⟨g, n * 4, none⟩ (.int .i64 k)).setCell ⟨g, n * 4 + 1, none⟩ (.string ⟨nm.toArray⟩)).setCell ⟨g, n * 4 + 2, none⟩ (.slice y kids.length c)).setCell ⟨g, n * 4 + 3, none⟩ (.int .i64 p)).setCell ⟨bn, 2, none⟩ (.slice (some ⟨g, 0, none⟩) (n + 1) cap)) := by
  have hs2 := hw.size
  have hg1 : bn < g := by
    rcases hat with h | h
    · have := hown g h; omega
    · omega
  have hbox : Box4 ((((w6.setCell ⟨g, n * 4, none⟩ (.int .i64 k)).setCell ⟨g, n * 4 + 1, none⟩ (.string ⟨nm.toArray⟩)).setCell ⟨g, n * 4 + 2, none⟩ (.slice y kids.length c)).setCell ⟨g, n * 4 + 3, none⟩ (.int .i64 p)) bn v0 v1 (.slice va n vc) v3 := (((hB.other (by omega)).other (by omega)).other (by omega)).other (by omega)
  have hrow := own_set4 (v0 := .int .i64 k) (v1 := .string ⟨nm.toArray⟩) (v2 := .slice y kids.length c) (v3 := .int .i64 p) ho hxl
  have hheap : ∀ j, j ≠ bn → j ≠ g → (((((w6.setCell ⟨g, n * 4, none⟩ (.int .i64 k)).setCell ⟨g, n * 4 + 1, none⟩ (.string ⟨nm.toArray⟩)).setCell ⟨g, n * 4 + 2, none⟩ (.slice y kids.length c)).setCell ⟨g, n * 4 + 3, none⟩ (.int .i64 p)).setCell ⟨bn, 2, none⟩ (.slice (some ⟨g, 0, none⟩) (n + 1) cap)).heap[j]? = w6.heap[j]? := fun j h1 h2 => by
    rw [Below.heap_setCell _ _ _ _ h1, Below.heap_setCell _ _ _ _ h2, Below.heap_setCell _ _ _ _ h2, Below.heap_setCell _ _ _ _ h2, Below.heap_setCell _ _ _ _ h2]
  have hsz : (((((w6.setCell ⟨g, n * 4, none⟩ (.int .i64 k)).setCell ⟨g, n * 4 + 1, none⟩ (.string ⟨nm.toArray⟩)).setCell ⟨g, n * 4 + 2, none⟩ (.slice y kids.length c)).setCell ⟨g, n * 4 + 3, none⟩ (.int .i64 p)).setCell ⟨bn, 2, none⟩ (.slice (some ⟨g, 0, none⟩) (n + 1) cap)).heap.size = w6.heap.size := by simp [World.setCell]
  have hkeep : ∀ j, (bn + 1 ≤ j ∧ some j ≠ (Value.slice va n vc).ownBlock) → j < w.heap.size → (((((w6.setCell ⟨g, n * 4, none⟩ (.int .i64 k)).setCell ⟨g, n * 4 + 1, none⟩ (.string ⟨nm.toArray⟩)).setCell ⟨g, n * 4 + 2, none⟩ (.slice y kids.length c)).setCell ⟨g, n * 4 + 3, none⟩ (.int .i64 p)).setCell ⟨bn, 2, none⟩ (.slice (some ⟨g, 0, none⟩) (n + 1) cap)).heap[j]? = w.heap[j]? := fun j hj hlt => by
    rw [hheap j (by omega) (fun e => by
      rcases hat with h | h
      · exact hj.2 (by rw [h, e])
      · omega), hgr.block j (by omega) hj.2]
    exact hw.block j hlt
  have hne : ∀ j, (bn + 1 ≤ j ∧ some j ≠ (Value.slice va n vc).ownBlock) → j < w.heap.size → bn + 1 ≤ j ∧ some j ≠ (Value.slice (some ⟨g, 0, none⟩) (n + 1) cap).ownBlock := fun j hj hlt => ⟨hj.1, fun e => by
    have e2 : j = g := by simpa [Value.ownBlock] using e
    rcases hat with h | h
    · exact hj.2 (by rw [h, e2])
    · omega⟩
  refine ⟨_, hbox.set2, ⟨xs ++ [.int .i64 k, .string ⟨nm.toArray⟩, .slice y kids.length c, .int .i64 p], ?_, ?_⟩, ?_⟩
  · have e : (acc ++ [Nd.mk k nm kids p]).length = n + 1 := by simp [hla]
    rw [e]
    refine ⟨hrow.1, ?_⟩
    rcases hrow.2 with ⟨_, h0⟩ | ⟨g', cap', cur, h1, h2, h3, h4⟩
    · omega
    · refine .inr ⟨g', cap', cur, h1, h2, ?_, h4⟩
      cases h1
      rw [Below.heap_setCell _ _ _ _ (show g ≠ bn by omega)]
      exact h3
  · exact NFlat.app (NdRow.cells (NdRow.mono hne hkeep _ _ hk)) (NFlat.mono hne hkeep hfl)
  · have b6 : Below bn w w6 := ⟨hgr.os.trans hw.os, hgr.tape.trans hw.tape, hgr.output.trans hw.output, Nat.le_trans hs2 hgr.size, fun j hj => by
      rw [hgr.block j (by omega) (fun e => by have := hown j e.symm; omega)]
      exact hw.block j (by omega)⟩
    exact ((((b6.setCell (p := ⟨g, n * 4, none⟩) (by show bn ≤ g; omega) _).setCell (p := ⟨g, n * 4 + 1, none⟩) (by show bn ≤ g; omega) _).setCell (p := ⟨g, n * 4 + 2, none⟩) (by show bn ≤ g; omega) _).setCell (p := ⟨g, n * 4 + 3, none⟩) (by show bn ≤ g; omega) _).setCell (p := ⟨bn, 2, none⟩) (Nat.le_refl _) _
set_option maxHeartbeats 4000000 in
theorem add_any (bn : Nat) (acc : List Nd) (hacc : acc.length ≤ 8) (v v0 v1 v3 : Value) (k : Int) (n : List UInt8) (kids : List Nd) (p : Int) (y : Option Addr) (c : Cp kids.length) (w : World) (hb : Box4 w bn v0 v1 v v3) (hrow : RowOwn w (bn + 1) v acc) (hk : NdRow w (fun b => bn + 1 ≤ b ∧ some b ≠ v.ownBlock) kids y) :
    Calls Tryz.prog 103 #[.agg #[.int .i64 k, .string ⟨n.toArray⟩, .slice y kids.length c, .int .i64 p], .pointer (some ⟨bn, 0, none⟩)] w fun e w' => e = .returned (.tuple #[]) ∧ ∃ v', Box4 w' bn v0 v1 v' v3 ∧ RowOwn w' (bn + 1) v' (acc ++ [.mk k n kids p]) ∧ Below bn w w' := by
  obtain ⟨i0, hi0, hz0, hz1, hz2⟩ := info_parts Tryz.infoNode
  obtain ⟨va, vc, rfl, hvc, _⟩ := hrow.shape
  obtain ⟨la, hla⟩ : ∃ la, acc.length = la := ⟨_, rfl⟩
  have HLA := Lib.hid hla
  have hltb := hb.lt
  have W1 : Below w.heap.size w (w.alloc (.cells #[.int .i64 k, .string ⟨n.toArray⟩, .slice y kids.length c, .int .i64 p] 53)) := (Below.refl _ _).alloc (Nat.le_refl _) _
  obtain ⟨_, _, n2, _, nf⟩ := hb.facts
  have hb1 := hb.alloc (.cells #[.int .i64 k, .string ⟨n.toArray⟩, .slice y kids.length c, .int .i64 p] 53)
  have hbk := Box4.new w (.int .i64 k) (.string ⟨n.toArray⟩) (.slice y kids.length c) (.int .i64 p)
  obtain ⟨x0, x1, x2, x3, xf⟩ := hbk.facts
  obtain ⟨_, _, m2, _, mf⟩ := hb1.facts
  have m2o := fun o => al_cell m2 o
  have x0o := fun o => al_cell x0 o
  have x1o := fun o => al_cell x1 o
  have x2o := fun o => al_cell x2 o
  have x3o := fun o => al_cell x3 o
  rw [hla] at n2 m2 m2o hvc hacc
  have HB := Lib.hid hb
  obtain ⟨xs, hown, hflat⟩ := hrow
  rw [hla] at hown
  have hxl : xs.length = la * 4 := hown.1
  have hownlt := hown.lt
  have HOWN : Hid ((((w.alloc (.cells #[.int .i64 k, .string ⟨n.toArray⟩, .slice y kids.length c, .int .i64 p] 53)).alloc (.cells #[.int .i64 0, .string ⟨#[]⟩, .slice none 0 0, .int .i64 0] 53)).drew).ownsRow (bn + 1) 53 4 (.slice va la vc) la xs) := (hown.alloc _).alloc _
  have hbn : some bn ≠ (Value.slice va la vc).ownBlock := fun e => by have := (hownlt bn e.symm).1; omega
  have hbk : some w.heap.size ≠ (Value.slice va la vc).ownBlock := fun e => by have := (hownlt _ e.symm).2; omega
  have HBB : Hid (Box4 (((w.alloc (.cells #[.int .i64 k, .string ⟨n.toArray⟩, .slice y kids.length c, .int .i64 p] 53)).alloc (.cells #[.int .i64 0, .string ⟨#[]⟩, .slice none 0 0, .int .i64 0] 53)).drew) bn v0 v1 (.slice va la vc) v3) := by
    have h9 := (hb.alloc (.cells #[.int .i64 k, .string ⟨n.toArray⟩, .slice y kids.length c, .int .i64 p] 53)).alloc (.cells #[.int .i64 0, .string ⟨#[]⟩, .slice none 0 0, .int .i64 0] 53)
    rw [hla] at h9
    exact h9
  have HBK : Hid (Box4 (((w.alloc (.cells #[.int .i64 k, .string ⟨n.toArray⟩, .slice y kids.length c, .int .i64 p] 53)).alloc (.cells #[.int .i64 0, .string ⟨#[]⟩, .slice none 0 0, .int .i64 0] 53)).drew) w.heap.size (.int .i64 k) (.string ⟨n.toArray⟩) (.slice y kids.length c) (.int .i64 p)) := (Box4.new w _ _ _ _).alloc _
  have hszz : (((w.alloc (.cells #[.int .i64 k, .string ⟨n.toArray⟩, .slice y kids.length c, .int .i64 p] 53)).alloc (.cells #[.int .i64 0, .string ⟨#[]⟩, .slice none 0 0, .int .i64 0] 53)).drew).heap.size = w.heap.size + 1 + 1 := by
    show ((w.alloc _).alloc _).heap.size = _
    rw [World.size_alloc, World.size_alloc]
  have hcz := cell_four_new (w.alloc (.cells #[.int .i64 k, .string ⟨n.toArray⟩, .slice y kids.length c, .int .i64 p] 53)) (.int .i64 0) (.string ⟨#[]⟩) (.slice none 0 0) (.int .i64 0) 53
  rw [World.size_alloc] at hcz
  have HCZ := Lib.hid hcz
  have hS0 : (w.alloc (.cells #[.int .i64 k, .string ⟨n.toArray⟩, .slice y kids.length c, .int .i64 p] 53)).drew.cell? ⟨w.heap.size, 0, none⟩ = some (.int .i64 k) ∧ (w.alloc (.cells #[.int .i64 k, .string ⟨n.toArray⟩, .slice y kids.length c, .int .i64 p] 53)).drew.cell? ⟨w.heap.size, 1, none⟩ = some (.string ⟨n.toArray⟩) ∧ (w.alloc (.cells #[.int .i64 k, .string ⟨n.toArray⟩, .slice y kids.length c, .int .i64 p] 53)).drew.cell? ⟨w.heap.size, 2, none⟩ = some (.slice y kids.length c) ∧ (w.alloc (.cells #[.int .i64 k, .string ⟨n.toArray⟩, .slice y kids.length c, .int .i64 p] 53)).drew.cell? ⟨w.heap.size, 3, none⟩ = some (.int .i64 p) := ⟨x0, x1, x2, x3⟩
  have hS1 : (((w.alloc (.cells #[.int .i64 k, .string ⟨n.toArray⟩, .slice y kids.length c, .int .i64 p] 53)).alloc (.cells #[.int .i64 0, .string ⟨#[]⟩, .slice none 0 0, .int .i64 0] 53)).drew).cell? ⟨w.heap.size, 0, none⟩ = some (.int .i64 k) ∧ (((w.alloc (.cells #[.int .i64 k, .string ⟨n.toArray⟩, .slice y kids.length c, .int .i64 p] 53)).alloc (.cells #[.int .i64 0, .string ⟨#[]⟩, .slice none 0 0, .int .i64 0] 53)).drew).cell? ⟨w.heap.size, 1, none⟩ = some (.string ⟨n.toArray⟩) ∧ (((w.alloc (.cells #[.int .i64 k, .string ⟨n.toArray⟩, .slice y kids.length c, .int .i64 p] 53)).alloc (.cells #[.int .i64 0, .string ⟨#[]⟩, .slice none 0 0, .int .i64 0] 53)).drew).cell? ⟨w.heap.size, 2, none⟩ = some (.slice y kids.length c) ∧ (((w.alloc (.cells #[.int .i64 k, .string ⟨n.toArray⟩, .slice y kids.length c, .int .i64 p] 53)).alloc (.cells #[.int .i64 0, .string ⟨#[]⟩, .slice none 0 0, .int .i64 0] 53)).drew).cell? ⟨w.heap.size, 3, none⟩ = some (.int .i64 p) := ⟨x0o _, x1o _, x2o _, x3o _⟩
  have HAL := Lib.hid hownlt
  rw [hla] at hflat
  have HFL := Lib.hid hflat
  have hk' := hk
  rw [hla] at hk'
  have HK := Lib.hid hk'
  have HW2 : Hid (Below w.heap.size w (((w.alloc (.cells #[.int .i64 k, .string ⟨n.toArray⟩, .slice y kids.length c, .int .i64 p] 53)).alloc (.cells #[.int .i64 0, .string ⟨#[]⟩, .slice none 0 0, .int .i64 0] 53)).drew)) := (((Below.refl _ _).alloc (Nat.le_refl _) _).alloc (by rw [World.size_alloc]; omega) _).drew
  have hin : (la : Int) < la + 1 := by omega
  clear hb hk hk' hla hown hflat hcz W1
  go_enter Tryz.func103, Tryz.ntmps103
  go_wp2_with fail
  go_region_law? (first | (refine step_append_lies _ rfl (.tmp 4) (.tmp 7) 22 rfl (bn + 1) 53 i0 (.agg #[.int .i64 0, .string ⟨#[]⟩, .slice none 0 0, .int .i64 0]) 4 56 Tryz.underlying22 hi0 hz0 hz1 hz2 rfl (by decide) (.slice va la vc) la xs (by simp [Act.eval, Act.put]) HOWN.out ⟨w.heap.size + 1, 0, none⟩ 1 1 [.int .i64 0, .string ⟨#[]⟩, .slice none 0 0, .int .i64 0] (by simp [Act.eval, Act.put]) rfl HCZ.out (fun x hx => by simp at hx; rcases hx with rfl | rfl | rfl | rfl <;> rfl) (by omega) (by unfold maxLen; omega) (by omega) (by omega) _ rfl ?_; intro g cap w6 hown' hgrow hat hlt; have hB6 := keep_far HBB.out hgrow hbn; have hS6 := keep_far HBK.out hgrow hbk; have hfa := add_facts hB6 hS6 hown' hgrow hat hlt hxl hszz hltb HAL.out; obtain ⟨g1, g2, ⟨t0, t1, t2, t3, tf⟩, tb, ⟨b2, bf⟩, bb, ⟨c0, c1, c2, c3⟩, cc⟩ := hfa; have tb0 := fun v => (tb v).1; have tb1 := fun v => (tb v).2.1; have tb2 := fun v => (tb v).2.2.1; have tb3 := fun v => (tb v).2.2.2.1; have tbf := fun v => (tb v).2.2.2.2; have bb0 := fun a b c d => (bb a b c d).1; have bbf := fun a b c d => (bb a b c d).2; have cc0 := fun v => (cc v).1; have cc1 := fun v => (cc v).2.1; have cc2 := fun v => (cc v).2.2.1; have cc3 := fun v => (cc v).2.2.2; have HFA := Lib.hid (And.intro hB6 (And.intro hown' (And.intro hgrow hlt))); clear hB6 hS6 hown' hgrow hlt tb bb cc))
  all_goals (
    obtain ⟨hB6, hown', hgrow, hlt⟩ := HFA.out
    have hdone := add_done (c := c) (p := p) (k := k) (nm := n) HW2.out HLA.out hB6 hown' hgrow hat hxl hltb HAL.out HFL.out HK.out
    clear HFA hB6 hown' hgrow hlt tf tbf bf bbf t0 t1 t2 t3 tb0 tb1 tb2 tb3 b2 bb0 c0 c1 c2 c3 cc0 cc1 cc2 cc3
    go_end0
    refine ⟨rfl, ?_⟩
    first
    | with_reducible exact hdone
    | (rw [setCell_comm4 _ _ _ _ _ _ _ _ _ g2]; with_reducible exact hdone))
end Go.Proofs.YtpbkeamjdolpgaaGreatDoor
namespace Go.Proofs.YtpbkeamjdolpgaaGreatDoor
open Go.RowKit Go.Lib Go.Shelf

def Mid (C : Ctx) (w0 : World) (bn : Nat) (k : Int) (nm : List UInt8) (v : Value) (acc : List Nd) (pp : Int) (q : Nat) (w : World) : Prop :=
  Box4 w bn (.int .i64 k) (.string ⟨nm.toArray⟩) v (.int .i64 pp) ∧ RowOwn w (bn + 1) v acc ∧ Box4 w w0.heap.size (.int .i64 0) (.string ⟨#[]⟩) (.slice none 0 0) (.int .i64 0) ∧ PSt C w q ∧ Ow C.pb w0 w ∧ w0.heap.size < bn ∧ ∃ p0, PSt C w0 p0
section
variable {C : Ctx} {w0 : World} {bn : Nat} {k : Int} {nm : List UInt8} {v : Value} {acc : List Nd} {pp : Int} {q : Nat} {w : World}
theorem Mid.ow (h : Mid C w0 bn k nm v acc pp q w) {q' : Nat} {w' : World} (hs : PSt C w' q') (ho : Ow C.pb w w') : Mid C w0 bn k nm v acc pp q' w' := by
  obtain ⟨h1, h2, h3, _, h5, h6, p0, h7⟩ := h
  have := h7.lt
  exact ⟨h1.ow ho (by omega), h2.ow ho (by omega), h3.ow ho (by omega), hs, h5.trans ho, h6, p0, h7⟩
theorem Mid.below (h : Mid C w0 bn k nm v acc pp q w) {w' : World} (hb : Below w.heap.size w w') : Mid C w0 bn k nm v acc pp q w' := h.ow (h.2.2.2.1.below hb) (Ow.of_below hb)
theorem Mid.set0 (h : Mid C w0 bn k nm v acc pp q w) (k' : Int) : Mid C w0 bn k' nm v acc pp q (w.setCell ⟨bn, 0, none⟩ (.int .i64 k')) := by
  obtain ⟨h1, h2, h3, h4, h5, h6, p0, h7⟩ := h
  exact ⟨h1.set0, h2.ow ((Ow.refl bn w).setCell (.inl rfl) _) (Nat.lt_succ_self _), h3.other (by omega), h7.keep h4 (fun j hj => Below.heap_setCell _ _ _ _ (show j ≠ bn by omega)), h5.set (by omega), h6, p0, h7⟩
theorem Mid.set1 (h : Mid C w0 bn k nm v acc pp q w) (n' : List UInt8) : Mid C w0 bn k n' v acc pp q (w.setCell ⟨bn, 1, none⟩ (.string ⟨n'.toArray⟩)) := by
  obtain ⟨h1, h2, h3, h4, h5, h6, p0, h7⟩ := h
  exact ⟨h1.set1, h2.ow ((Ow.refl bn w).setCell (.inl rfl) _) (Nat.lt_succ_self _), h3.other (by omega), h7.keep h4 (fun j hj => Below.heap_setCell _ _ _ _ (show j ≠ bn by omega)), h5.set (by omega), h6, p0, h7⟩
theorem Mid.facts (h : Mid C w0 bn k nm v acc pp q w) : BoxF w bn (.int .i64 k) (.string ⟨nm.toArray⟩) v (.int .i64 pp) ∧ BoxF w w0.heap.size (.int .i64 0) (.string ⟨#[]⟩) (.slice none 0 0) (.int .i64 0) := ⟨h.1.facts, h.2.2.1.facts⟩
theorem Mid.lt (h : Mid C w0 bn k nm v acc pp q w) : w0.heap.size < bn ∧ bn < w.heap.size ∧ C.pb < w0.heap.size := by
  obtain ⟨h1, _, _, _, _, h6, p0, h7⟩ := h
  exact ⟨h6, h1.lt, h7.lt⟩
theorem Mid.row (h : Mid C w0 bn k nm v acc pp q w) : ∃ y, ∃ c : Cp acc.length, v = .slice y acc.length c ∧ NdRow w (fun b => bn + 1 ≤ b) acc y := by
  obtain ⟨a, c, h1, hc, h3⟩ := h.2.1.shape
  exact ⟨a, ⟨c, hc⟩, h1, h3⟩

variable {R : Res Nd}
theorem skip_m (h : Mid C w0 bn k nm v acc pp q w) {s : List UInt8} {A B : Res Nd} (hR : R = if isT C.ts q s = true then A else B) :
    Calls Tryz.prog 104 #[.pointer (some ⟨C.pb, 0, none⟩), .string ⟨s.toArray⟩] w fun e w' => (e = .returned (.bool true) ∧ R = A ∧ Mid C w0 bn k nm v acc pp (q + 1) w') ∨ (e = .returned (.bool false) ∧ R = B ∧ Mid C w0 bn k nm v acc pp q w') :=
  (skip_x C q s w h.2.2.2.1 (fun _ => True) (fun _ _ => trivial)).mono fun _ _ h1 => h1.imp (fun ⟨a, b, c, d, _⟩ => ⟨b, by rw [hR, if_pos a], h.ow c d⟩) (fun ⟨a, b, c, d, _⟩ => ⟨b, by rw [hR, a]; rfl, h.ow c d⟩)
theorem is_m (h : Mid C w0 bn k nm v acc pp q w) {s : List UInt8} {A B : Res Nd} (hR : R = if isT C.ts q s = true then A else B) :
    Calls Tryz.prog 111 #[.pointer (some ⟨C.pb, 0, none⟩), .string ⟨s.toArray⟩] w fun e w' => (e = .returned (.bool true) ∧ R = A ∧ Mid C w0 bn k nm v acc pp q w') ∨ (e = .returned (.bool false) ∧ R = B ∧ Mid C w0 bn k nm v acc pp q w') :=
  (is_x C q s w h.2.2.2.1 (fun _ => True) (fun _ _ => trivial)).mono fun _ _ h1 => h1.imp (fun ⟨a, b, c, d, _⟩ => ⟨b, by rw [hR, if_pos a], h.ow c d⟩) (fun ⟨a, b, c, d, _⟩ => ⟨b, by rw [hR, a]; rfl, h.ow c d⟩)
theorem is_b (h : Mid C w0 bn k nm v acc pp q w) (s : List UInt8) :
    Calls Tryz.prog 111 #[.pointer (some ⟨C.pb, 0, none⟩), .string ⟨s.toArray⟩] w fun e w' => (e = .returned (.bool true) ∧ isT C.ts q s = true ∧ Mid C w0 bn k nm v acc pp q w') ∨ (e = .returned (.bool false) ∧ isT C.ts q s = false ∧ Mid C w0 bn k nm v acc pp q w') :=
  (is_x C q s w h.2.2.2.1 (fun _ => True) (fun _ _ => trivial)).mono fun _ _ h1 => h1.imp (fun ⟨a, b, c, d, _⟩ => ⟨b, a, h.ow c d⟩) (fun ⟨a, b, c, d, _⟩ => ⟨b, a, h.ow c d⟩)
theorem take_m (h : Mid C w0 bn k nm v acc pp q w) {s : List UInt8} {K : Nat → Nat → Res Nd} (hR : R = (takeP C.ts C.s.size s q).bind K) :
    Calls Tryz.prog 108 #[.pointer (some ⟨C.pb, 0, none⟩), .string ⟨s.toArray⟩] w fun e w' => (∃ q', e = .returned (.int .i64 (placeT C.ts C.s.size q)) ∧ R = K (placeT C.ts C.s.size q) q' ∧ Mid C w0 bn k nm v acc pp q' w') ∨ (R = .bad q ∧ DeadF C w0 w' q e) :=
  (take_x C q s w h.2.2.2.1 (fun _ => True) (fun _ _ => trivial)).mono fun _ _ h1 => h1.imp (fun ⟨q', a, b, c, d, _⟩ => ⟨q', b, by rw [hR, a]; rfl, h.ow c d⟩) (fun ⟨a, b⟩ => ⟨by rw [hR, a]; rfl, b.from h.2.2.2.2.1⟩)
theorem name_m (h : Mid C w0 bn k nm v acc pp q w) {K : List UInt8 → Nat → Res Nd} (hR : R = (nameP C.ts q).bind K) :
    Calls Tryz.prog 105 #[.pointer (some ⟨C.pb, 0, none⟩)] w fun e w' => (∃ q' n, e = .returned (.string ⟨n.toArray⟩) ∧ R = K n q' ∧ Mid C w0 bn k nm v acc pp q' w') ∨ (R = .bad q ∧ DeadF C w0 w' q e) :=
  (name_x C q w h.2.2.2.1 (fun _ => True) (fun _ _ => trivial)).mono fun _ _ h1 => h1.imp (fun ⟨q', a, b, c, d, _⟩ => ⟨q', _, b, by rw [hR, a]; rfl, h.ow c d⟩) (fun ⟨a, b⟩ => ⟨by rw [hR, a]; rfl, b.from h.2.2.2.2.1⟩)
theorem node_m (h : Mid C w0 bn k nm v acc pp q w) {F : Nat} {args : Array Value} {S : Res Nd} (hc : PSt C w q → S ≠ .out → Calls Tryz.prog F args w (FinN C w S)) {K : Nd → Nat → Res Nd} (hR : R = S.bind K) (hne : R ≠ .out) :
    Calls Tryz.prog F args w fun e w' => (∃ k' n, ∃ kids : List Nd, ∃ p y, ∃ c : Cp kids.length, ∃ q', R = K (.mk k' n kids p) q' ∧ e = .returned (.agg #[.int .i64 k', .string ⟨n.toArray⟩, .slice y kids.length c, .int .i64 p]) ∧ NdRow w' (fun b => bn + 1 ≤ b ∧ some b ≠ v.ownBlock) kids y ∧ Mid C w0 bn k nm v acc pp q' w') ∨ (∃ q', R = .bad q' ∧ DeadF C w0 w' q' e) := by
  refine (hc h.2.2.2.1 (fun e => hne (by rw [hR, e]; rfl))).mono fun _ _ h1 => h1.imp (fun ⟨k', n, kids, p, y, c, q', a, b, d, e, f⟩ => ⟨k', n, kids, p, y, c, q', by rw [hR, a]; rfl, b, d.wide fun j hj _ => ?_, h.ow e f⟩) (fun ⟨q', a, b⟩ => ⟨q', by rw [hR, a]; rfl, b.from h.2.2.2.2.1⟩)
  have h2 := h.lt
  obtain ⟨xs, h3, _⟩ := h.2.1
  exact ⟨by omega, fun e => by have := (h3.lt j e.symm).2; omega⟩
theorem add_m (h : Mid C w0 bn k nm v acc pp q w) (hacc : acc.length ≤ 8) {k' : Int} {n : List UInt8} {kids : List Nd} {p : Int} {y : Option Addr} {c : Cp kids.length} (hk : NdRow w (fun b => bn + 1 ≤ b ∧ some b ≠ v.ownBlock) kids y) :
    Calls Tryz.prog 103 #[.agg #[.int .i64 k', .string ⟨n.toArray⟩, .slice y kids.length c, .int .i64 p], .pointer (some ⟨bn, 0, none⟩)] w fun e w' => e = .returned (.tuple #[]) ∧ ∃ va m vc, Mid C w0 bn k nm (.slice va m vc) (acc ++ [.mk k' n kids p]) pp q w' := by
  obtain ⟨h1, h2, h3, h4, h5, h6, p0, h7⟩ := h
  refine (add_any bn acc hacc v _ _ _ k' n kids p y c w h1 h2 hk).mono ?_
  rintro e w' ⟨rfl, v', g1, g2, g3⟩
  obtain ⟨va, vc, rfl, _⟩ := g2.shape
  exact ⟨rfl, va, _, vc, g1, g2, (g3.block _ h6).trans h3, h7.keep h4 (fun j hj => g3.block j (by omega)), h5.belowB g3 (by omega), h6, p0, h7⟩
theorem Mid.start {p : Nat} {w1 : World} (h0 : PSt C w0 p) (ho : Ow C.pb (w0.alloc zNode) w1) (hs : PSt C w1 q) (k : Int) (pp : Int) : Mid C w0 w1.heap.size k [] (.slice none 0 0) [] pp q (w1.alloc (.cells #[.int .i64 k, .string ⟨#[]⟩, .slice none 0 0, .int .i64 pp] 53)) := by
  have hlt := h0.lt
  have hsz := ho.size
  rw [World.size_alloc] at hsz
  exact ⟨Box4.new w1 _ _ _ _, RowOwn.nil _ _, ((Box4.new w0 _ _ _ _).ow ho (by omega)).alloc _, hs.below ((Below.refl _ _).alloc (Nat.le_refl _) _), (((Ow.refl _ _).alloc _).trans ho).alloc _, by omega, p, h0⟩
theorem Mid.done (h : Mid C w0 bn k nm v acc pp q w) (hR : R = .ok (.mk k nm acc pp) q) {w' : World} (hk : ∀ j, j ≠ w0.heap.size → w'.heap[j]? = w.heap[j]?) (hs : w'.heap.size = w.heap.size) (ho : w'.os = w.os) (ht : w'.tape = w.tape) (hp : w'.output = w.output) : FinN C w0 R (.returned (.agg #[.int .i64 k, .string ⟨nm.toArray⟩, v, .int .i64 pp])) w' := by
  obtain ⟨y, c, rfl, h9⟩ := h.row
  obtain ⟨h1, h2, h3, h4, h5, h6, p0, h7⟩ := h
  refine .inl ⟨k, nm, acc, pp, y, c, q, hR, rfl, NdRow.mono (fun j hj _ => by omega) (fun j hj _ => hk j (by omega)) _ _ h9, h7.keep h4 fun j hj => hk j (by omega), ho.trans h5.os, ht.trans h5.tape, hp.trans h5.output, by rw [hs]; exact h5.size, fun j h8 h10 => (hk j (by omega)).trans (h5.block j h8 h10)⟩
theorem Mid.drew (h : Mid C w0 bn k nm v acc pp q w) : Mid C w0 bn k nm v acc pp q w.drew := h.below (Below.refl _ _).drew
theorem node_okm (h : Mid C w0 bn k nm v acc pp q w) {F : Nat} {args : Array Value} {S : Res Nd} (hc : Calls Tryz.prog F args w (FinN C w S)) {k' : Int} {n : List UInt8} {kids : List Nd} {p : Int} {q' : Nat} (hS : S = .ok (.mk k' n kids p) q') :
    Calls Tryz.prog F args w fun e w' => ∃ y, ∃ c : Cp kids.length, e = .returned (.agg #[.int .i64 k', .string ⟨n.toArray⟩, .slice y kids.length c, .int .i64 p]) ∧ NdRow w' (fun b => bn + 1 ≤ b ∧ some b ≠ v.ownBlock) kids y ∧ Mid C w0 bn k nm v acc pp q' w' :=
  (node_m h (S := S) (R := S) (K := fun x r => .ok x r) (fun _ _ => hc) (by rw [hS]; rfl) (by rw [hS]; intro h; cases h)).mono fun _ _ h1 => by
    rcases h1 with ⟨a1, a2, a3, a4, y, c, a5, h2, h3, h4, h5⟩ | ⟨a, h2, _⟩
    · rw [hS] at h2
      cases h2
      exact ⟨y, c, h3, h4, h5⟩
    · rw [hS] at h2
      cases h2
theorem Mid.push {va : Option Addr} {m vc : Nat} {xs : List Value} {k' : Int} {n : List UInt8} {kids : List Nd} {p : Int} {y : Option Addr} {c : Cp kids.length} {w2 w6 : World} {g cap : Nat} (h : Mid C w0 bn k nm (.slice va m vc) acc pp q w) (hm : acc.length = m) (hk : NdRow w (fun b => bn + 1 ≤ b ∧ some b ≠ (Value.slice va m vc).ownBlock) kids y)
    (hfl : NFlat w (fun k => bn + 1 ≤ k ∧ some k ≠ (Value.slice va m vc).ownBlock) acc xs) (hown : ∀ k, (Value.slice va m vc).ownBlock = some k → bn + 1 ≤ k ∧ k < w.heap.size) (hw : Below w.heap.size w w2)
    (ho : w6.ownsRow (bn + 1) 53 4 (.slice (some ⟨g, 0, none⟩) (m + 1) cap) (m + 1) (xs ++ [.int .i64 k', .string ⟨n.toArray⟩, .slice y kids.length c, .int .i64 p])) (hgr : w2.grownBy w6 (Value.slice va m vc).ownBlock) (hat : (Value.slice va m vc).ownBlock = some g ∨ g = w2.heap.size) :
    Mid C w0 bn k nm (.slice (some ⟨g, 0, none⟩) (m + 1) cap) (acc ++ [.mk k' n kids p]) pp q (w6.setCell ⟨bn, 2, none⟩ (.slice (some ⟨g, 0, none⟩) (m + 1) cap)) := by
  have hlt := h.lt
  have hs2 := hw.size
  obtain ⟨h1, h2, h3, h4, h5, h6, p0, h7⟩ := h
  have hg1 : bn < g := by
    rcases hat with e | e
    · have := hown g e; omega
    · omega
  have hbn : some bn ≠ (Value.slice va m vc).ownBlock := fun e => by have := hown bn e.symm; omega
  have b6 : Below bn w w6 := ⟨hgr.os.trans hw.os, hgr.tape.trans hw.tape, hgr.output.trans hw.output, Nat.le_trans hs2 hgr.size, fun j hj => by
    rw [hgr.block j (by omega) (fun e => by have := hown j e.symm; omega)]
    exact hw.block j (by omega)⟩
  have b7 : Below bn w (w6.setCell ⟨bn, 2, none⟩ (.slice (some ⟨g, 0, none⟩) (m + 1) cap)) := b6.setCell (p := ⟨bn, 2, none⟩) (Nat.le_refl _) _
  have hbox : Box4 w6 bn (.int .i64 k) (.string ⟨nm.toArray⟩) (.slice va m vc) (.int .i64 pp) := keep_far (h1.below hw) hgr hbn
  have hx : NFlat w2 (fun k => bn + 1 ≤ k ∧ some k ≠ (Value.slice va m vc).ownBlock) acc xs := NFlat.mono (fun _ h _ => h) (fun j _ hj => hw.block j hj) hfl
  have hk2 : NdRow w2 (fun k => bn + 1 ≤ k ∧ some k ≠ (Value.slice va m vc).ownBlock) kids y := NdRow.mono (fun _ h _ => h) (fun j _ hj => hw.block j hj) _ _ hk
  have hr : RowOwn w6 (bn + 1) (.slice (some ⟨g, 0, none⟩) (m + 1) cap) (acc ++ [.mk k' n kids p]) := RowOwn.snoc hx hk2.cells (by rw [hm]; exact ho) hgr (hat.imp (fun e => by rw [e]; rfl) (fun e k hk => by
    have : g = k := by simpa [Value.ownBlock] using hk
    omega))
  exact ⟨hbox.set2, hr.ow ((Ow.refl bn w6).setCell (.inl rfl) _) (Nat.lt_succ_self _), (b7.block _ h6).trans h3, h7.keep h4 (fun j hj => b7.block j (by omega)), h5.belowB b7 (by omega), h6, p0, h7⟩
theorem Mid.done4 (h : Mid C w0 bn k nm v acc pp q w) (hR : R = .ok (.mk k nm acc pp) q) {a b c d : Value} : FinN C w0 R (.returned (.agg #[.int .i64 k, .string ⟨nm.toArray⟩, v, .int .i64 pp])) ((((w.setCell ⟨w0.heap.size, 0, none⟩ a).setCell ⟨w0.heap.size, 1, none⟩ b).setCell ⟨w0.heap.size, 2, none⟩ c).setCell ⟨w0.heap.size, 3, none⟩ d) :=
  h.done hR (fun j hj => by rw [Below.heap_setCell _ _ _ _ hj, Below.heap_setCell _ _ _ _ hj, Below.heap_setCell _ _ _ _ hj, Below.heap_setCell _ _ _ _ hj]) (by simp [World.setCell]) rfl rfl rfl
end
end Go.Proofs.YtpbkeamjdolpgaaGreatDoor
namespace Go.Proofs.YtpbkeamjdolpgaaGreatDoor
open Go.RowKit Go.Lib Go.Shelf

theorem indexL_step {C : Ctx} {ex : Nat → Res Nd} {g q : Nat} {x : Nd} (hB : isT C.ts q [91] = true) : indexL C.ts C.s.size ex (g + 1) x q = (ex (q + 1)).bind fun y r => (takeP C.ts C.s.size [93] r).bind fun _ e => indexL C.ts C.s.size ex g (.mk 14 [] [x, y] (placeT C.ts C.s.size q)) e := by
  rw [indexL, hB]
  rfl
theorem indexL_end {C : Ctx} {ex : Nat → Res Nd} {g q : Nat} {x : Nd} (hB : isT C.ts q [91] = false) : indexL C.ts C.s.size ex (g + 1) x q = .ok x q := by
  rw [indexL, hB]
  rfl
set_option maxHeartbeats 4000000 in
set_option maxRecDepth 100000 in
theorem unary_any (C : Ctx) (ex : Nat → Res Nd) (hx : OneT C 109 ex) (f : Nat) (hf : f ≤ 8192) : ∀ g : Nat, OneT C 162 (unaryL C.ts C.s.size ex f g)
  | 0 => fun w p _ _ hne => absurd rfl hne
  | g + 1 => by
    have ih := unary_any C ex hx f hf g
    intro w p h _ hne
    have F1 := fld1
    have F2 := fld2
    have hpb := h.lt
    obtain ⟨pl, hpl⟩ : ∃ pl, placeT C.ts C.s.size p = pl := ⟨_, rfl⟩
    obtain ⟨tx, htx⟩ : ∃ tx, textT C.ts p = tx := ⟨_, rfl⟩
    have hsz0 := World.size_alloc w zNode
    have hsA : PSt C (w.alloc zNode) p := h.below ((Below.refl _ _).alloc (Nat.le_refl _) _)
    have hne0 : w.heap.size ≠ C.pb := by omega
    have H0 := Lib.hid h
    have HA : Hid (Ow C.pb w (w.alloc zNode)) := Lib.hid ((Ow.refl _ _).alloc _)
    obtain ⟨R, hR⟩ : ∃ R, unaryL C.ts C.s.size ex f (g + 1) p = R := ⟨_, rfl⟩
    have EA : Hid ((isT C.ts p [45] || isT C.ts p [33]) = true → R = (unaryL C.ts C.s.size ex f g (p + 1)).bind fun x q => .ok (.mk 12 tx [x] pl) q) := fun h1 => by rw [← hR, unaryL, h1, htx, hpl]; rfl
    have EB : Hid ((isT C.ts p [45] || isT C.ts p [33]) = false → R = (atomO C.ts C.s.size ex f p).bind fun x q => indexL C.ts C.s.size ex f x q) := fun h1 => by rw [← hR, unaryL, h1]; rfl
    rw [hR] at hne ⊢
    have hZ : Box4 (w.alloc zNode) w.heap.size (.int .i64 0) (.string ⟨#[]⟩) (.slice none 0 0) (.int .i64 0) := Box4.new w _ _ _ _
    have c0 := is_x C p [45] _ hsA _ (fun w1 ho => hZ.x ho hne0)
    have HNE := Lib.hid hne
    have HHX := Lib.hid hx
    have HIH := Lib.hid ih
    have HPL := Lib.hid hpl
    have HTX := Lib.hid htx
    clear hR hne h hsA hx hZ hpl htx ih
    -- the sign stands here
    have sign : ∀ w1, PSt C w1 p → Ow C.pb w w1 → Box4 w1 w.heap.size (.int .i64 0) (.string ⟨#[]⟩) (.slice none 0 0) (.int .i64 0) → True := fun _ _ _ _ => trivial
    clear sign
    go_enter Tryz.func162, Tryz.ntmps162
    go_wp2_with fail
    refine c0.mono ?_
    clear c0
    rintro e w1 (⟨hB1, rfl, hs1, ho1, ⟨z0, z1, z2, z3, zf⟩, HZ⟩ | ⟨hB1, rfl, hs1, ho1, ⟨z0, z1, z2, z3, zf⟩, HZ⟩)
    · go_wp2_with fail
      have HE := Lib.hid (EA.out (by simp [hB1]))
      have hpn : p < C.ts.length := isT_lt hB1
      have HPN := Lib.hid hpn
      have hle := hs1.len
      have X1 : IntKind.i64.wrap ((p : Int) + 1) = (p : Int) + 1 := IntWalk.i64_in _ (by omega)
      have c1 := token_x C p w1 hs1 _ (fun w' ho => HZ.out.x ho hne0)
      rw [HPL.out, HTX.out] at c1
      have HO1 := Lib.hid (HA.out.trans ho1)
      clear hs1 ho1 z0 z1 z2 z3 zf HZ hpn hle EA EB
      refine c1.mono ?_
      clear c1
      rintro e w2 ⟨rfl, hs2, ho2, ⟨z0, z1, z2, z3, zf⟩, HZ⟩
      have c2 := token_x C p w2 hs2 _ (fun w' ho => HZ.out.x ho hne0)
      rw [HPL.out, HTX.out] at c2
      have HO2 := Lib.hid (HO1.out.trans ho2)
      clear hs2 ho2 z0 z1 z2 z3 zf HZ
      go_wp2_with fail
      refine c2.mono ?_
      clear c2
      rintro e w3 ⟨rfl, hs3, ho3, ⟨z0, z1, z2, z3, zf⟩, HZ⟩
      have HO3 := Lib.hid (HO2.out.trans ho3)
      have hlt3 : w.heap.size < w3.heap.size := HZ.out.lt
      have hne3 : w3.heap.size ≠ C.pb := by omega
      have hne3' : C.pb ≠ w3.heap.size := by omega
      have hs3a := fun o => hs3.below ((Below.refl _ _).alloc (Nat.le_refl _) o)
      have k2 := fun o => (hs3a o).cells.2.2.1
      have kf := fun o => (hs3a o).cells.2.2.2
      have hs4 : PSt C ((w3.alloc (.cells #[.int .i64 12, .string ⟨tx.toArray⟩, .slice none 0 0, .int .i64 pl] 53)).setCell ⟨C.pb, 2, none⟩ (.int .i64 ((p : Int) + 1))) (p + 1) := (hs3a _).step (q := p + 1) HPN.out
      have HZ4 := Box4.other (k := C.pb) (o := 2) (v := .int .i64 ((p : Int) + 1)) (HZ.out.alloc (.cells #[.int .i64 12, .string ⟨tx.toArray⟩, .slice none 0 0, .int .i64 pl] 53)) hne0
      have HN4 := Box4.other (k := C.pb) (o := 2) (v := .int .i64 ((p : Int) + 1)) (Box4.new w3 (.int .i64 12) (.string ⟨tx.toArray⟩) (.slice none 0 0) (.int .i64 pl)) hne3
      have hx0 : unaryL C.ts C.s.size ex f g (p + 1) ≠ .out := fun e => HNE.out (by rw [HE.out, e]; rfl)
      have c3 := node_x (HIH.out _ (p + 1) hs4 trivial hx0) _ (fun w' ho => And.intro (HZ4.x ho hne0) (HN4.x ho hne3))
      have HO4 : Hid (Ow C.pb w ((w3.alloc (.cells #[.int .i64 12, .string ⟨tx.toArray⟩, .slice none 0 0, .int .i64 pl] 53)).setCell ⟨C.pb, 2, none⟩ (.int .i64 ((p : Int) + 1)))) := Lib.hid ((HO3.out.alloc _).setCell (a := ⟨C.pb, 2, none⟩) (.inl rfl) _)
      have hlt4 := HN4.lt
      clear hs3 ho3 hs3a hs4 HZ4 HN4 hx0 z0 z1 z2 z3 zf HZ
      go_wp2_with fail
      refine c3.mono ?_
      clear c3 k2 kf
      rintro e w5 (⟨k, n, kids, pp, y, c, q, hr5, rfl, hk5, hs5, ho5, ⟨⟨z0, z1, z2, z3, zf⟩, HZ⟩, ⟨n0, n1, n2, n3, nf⟩, HN⟩ | ⟨q, hr5, b, hd1, rfl, hd3, hd4⟩)
      · have HR5 := Lib.hid hr5
        have HK5 := Lib.hid hk5
        have hB5 := ho5.size
        have m0 := fun o => al_cell z0 o
        have m1 := fun o => al_cell z1 o
        have m2 := fun o => al_cell z2 o
        have m3 := fun o => al_cell z3 o
        have l0 := fun o => al_cell n0 o
        have l1 := fun o => al_cell n1 o
        have l2 := fun o => al_cell n2 o
        have l3 := fun o => al_cell n3 o
        have mf := fun ob o => ((HZ.out.alloc ob).facts).2.2.2.2 o
        have lf := fun ob o => ((HN.out.alloc ob).facts).2.2.2.2 o
        have hneb : w.heap.size ≠ w3.heap.size := by omega
        clear hr5 hk5
        go_wp2_with fail
        refine ret_node rfl rfl rfl (by simp [go_sem, m0]) (by simp [go_sem, m1]) (by simp [go_sem, m2]) (by simp [go_sem, m3]) (.inl ⟨12, tx, [.mk k n kids pp], pl, some ⟨w5.heap.size, 0, none⟩, ⟨1, Nat.le_refl _⟩, q, ?_, rfl,
          (((NdRow.build hB5 (NFlat.one (HK5.out.cells (k := k) (n := n) (p := pp) (c := c)))).set (fun b hb => by omega)).set4 (fun b hb => by omega)).wide (fun b hb _ => by omega),
          H0.out.keep hs5 ((((Kp.refl _ _).alloc (by omega) _).set (by omega)).set4 (Nat.le_refl _)), (((HO4.out.trans ho5).alloc _).set (by omega)).set4 (Nat.le_refl _)⟩)
        rw [HE.out, HR5.out]
        rfl
      · refine ⟨rfl, .inr ⟨q, ?_, b, Nat.le_trans HO4.out.size hd1, rfl, hd3, HO4.out.trans hd4⟩⟩
        rw [HE.out, hr5]
        rfl
    · have c1 := is_x C p [33] w1 hs1 _ (fun w' ho => HZ.out.x ho hne0)
      have HA' := Lib.hid (HA.out.trans ho1)
      clear hs1 ho1 z0 z1 z2 z3 zf HZ HA
      have HA := HA'
      clear HA'
      go_wp2_with fail
      refine c1.mono ?_
      clear c1
      rintro e w1 (⟨hB2, rfl, hs1, ho1, ⟨z0, z1, z2, z3, zf⟩, HZ⟩ | ⟨hB2, rfl, hs1, ho1, ⟨z0, z1, z2, z3, zf⟩, HZ⟩)
      · go_wp2_with fail
        have HE := Lib.hid (EA.out (by simp [hB1, hB2]))
        have hpn : p < C.ts.length := isT_lt hB2
        have HPN := Lib.hid hpn
        have hle := hs1.len
        have X1 : IntKind.i64.wrap ((p : Int) + 1) = (p : Int) + 1 := IntWalk.i64_in _ (by omega)
        have c1 := token_x C p w1 hs1 _ (fun w' ho => HZ.out.x ho hne0)
        rw [HPL.out, HTX.out] at c1
        have HO1 := Lib.hid (HA.out.trans ho1)
        clear hs1 ho1 z0 z1 z2 z3 zf HZ hpn hle EA EB
        refine c1.mono ?_
        clear c1
        rintro e w2 ⟨rfl, hs2, ho2, ⟨z0, z1, z2, z3, zf⟩, HZ⟩
        have c2 := token_x C p w2 hs2 _ (fun w' ho => HZ.out.x ho hne0)
        rw [HPL.out, HTX.out] at c2
        have HO2 := Lib.hid (HO1.out.trans ho2)
        clear hs2 ho2 z0 z1 z2 z3 zf HZ
        go_wp2_with fail
        refine c2.mono ?_
        clear c2
        rintro e w3 ⟨rfl, hs3, ho3, ⟨z0, z1, z2, z3, zf⟩, HZ⟩
        have HO3 := Lib.hid (HO2.out.trans ho3)
        have hlt3 : w.heap.size < w3.heap.size := HZ.out.lt
        have hne3 : w3.heap.size ≠ C.pb := by omega
        have hne3' : C.pb ≠ w3.heap.size := by omega
        have hs3a := fun o => hs3.below ((Below.refl _ _).alloc (Nat.le_refl _) o)
        have k2 := fun o => (hs3a o).cells.2.2.1
        have kf := fun o => (hs3a o).cells.2.2.2
        have hs4 : PSt C ((w3.alloc (.cells #[.int .i64 12, .string ⟨tx.toArray⟩, .slice none 0 0, .int .i64 pl] 53)).setCell ⟨C.pb, 2, none⟩ (.int .i64 ((p : Int) + 1))) (p + 1) := (hs3a _).step (q := p + 1) HPN.out
        have HZ4 := Box4.other (k := C.pb) (o := 2) (v := .int .i64 ((p : Int) + 1)) (HZ.out.alloc (.cells #[.int .i64 12, .string ⟨tx.toArray⟩, .slice none 0 0, .int .i64 pl] 53)) hne0
        have HN4 := Box4.other (k := C.pb) (o := 2) (v := .int .i64 ((p : Int) + 1)) (Box4.new w3 (.int .i64 12) (.string ⟨tx.toArray⟩) (.slice none 0 0) (.int .i64 pl)) hne3
        have hx0 : unaryL C.ts C.s.size ex f g (p + 1) ≠ .out := fun e => HNE.out (by rw [HE.out, e]; rfl)
        have c3 := node_x (HIH.out _ (p + 1) hs4 trivial hx0) _ (fun w' ho => And.intro (HZ4.x ho hne0) (HN4.x ho hne3))
        have HO4 : Hid (Ow C.pb w ((w3.alloc (.cells #[.int .i64 12, .string ⟨tx.toArray⟩, .slice none 0 0, .int .i64 pl] 53)).setCell ⟨C.pb, 2, none⟩ (.int .i64 ((p : Int) + 1)))) := Lib.hid ((HO3.out.alloc _).setCell (a := ⟨C.pb, 2, none⟩) (.inl rfl) _)
        have hlt4 := HN4.lt
        clear hs3 ho3 hs3a hs4 HZ4 HN4 hx0 z0 z1 z2 z3 zf HZ
        go_wp2_with fail
        refine c3.mono ?_
        clear c3 k2 kf
        rintro e w5 (⟨k, n, kids, pp, y, c, q, hr5, rfl, hk5, hs5, ho5, ⟨⟨z0, z1, z2, z3, zf⟩, HZ⟩, ⟨n0, n1, n2, n3, nf⟩, HN⟩ | ⟨q, hr5, b, hd1, rfl, hd3, hd4⟩)
        · have HR5 := Lib.hid hr5
          have HK5 := Lib.hid hk5
          have hB5 := ho5.size
          have m0 := fun o => al_cell z0 o
          have m1 := fun o => al_cell z1 o
          have m2 := fun o => al_cell z2 o
          have m3 := fun o => al_cell z3 o
          have l0 := fun o => al_cell n0 o
          have l1 := fun o => al_cell n1 o
          have l2 := fun o => al_cell n2 o
          have l3 := fun o => al_cell n3 o
          have mf := fun ob o => ((HZ.out.alloc ob).facts).2.2.2.2 o
          have lf := fun ob o => ((HN.out.alloc ob).facts).2.2.2.2 o
          have hneb : w.heap.size ≠ w3.heap.size := by omega
          clear hr5 hk5
          go_wp2_with fail
          refine ret_node rfl rfl rfl (by simp [go_sem, m0]) (by simp [go_sem, m1]) (by simp [go_sem, m2]) (by simp [go_sem, m3]) (.inl ⟨12, tx, [.mk k n kids pp], pl, some ⟨w5.heap.size, 0, none⟩, ⟨1, Nat.le_refl _⟩, q, ?_, rfl,
            (((NdRow.build hB5 (NFlat.one (HK5.out.cells (k := k) (n := n) (p := pp) (c := c)))).set (fun b hb => by omega)).set4 (fun b hb => by omega)).wide (fun b hb _ => by omega),
            H0.out.keep hs5 ((((Kp.refl _ _).alloc (by omega) _).set (by omega)).set4 (Nat.le_refl _)), (((HO4.out.trans ho5).alloc _).set (by omega)).set4 (Nat.le_refl _)⟩)
          rw [HE.out, HR5.out]
          rfl
        · refine ⟨rfl, .inr ⟨q, ?_, b, Nat.le_trans HO4.out.size hd1, rfl, hd3, HO4.out.trans hd4⟩⟩
          rw [HE.out, hr5]
          rfl
      · have HE := Lib.hid (EB.out (by simp [hB1, hB2]))
        have hx0 : atomO C.ts C.s.size ex f p ≠ .out := fun e => HNE.out (by rw [HE.out, e]; rfl)
        have c2 := node_x (atom_any C ex HHX.out f hf w1 p hs1 trivial hx0) _ (fun w' ho => HZ.out.x ho hne0)
        have HO1 := Lib.hid (HA.out.trans ho1)
        have hlt1 : w.heap.size < w1.heap.size := HZ.out.lt
        clear hs1 ho1 z0 z1 z2 z3 zf HZ EA EB hx0 HIH
        go_wp2_with fail
        refine c2.mono ?_
        clear c2
        rintro e w3 (⟨k, n, kids, pp, y, c, q, hr3, rfl, hk3, hs3, ho3, ⟨z0, z1, z2, z3, zf⟩, HZ⟩ | ⟨q, hr3, b, hd1, rfl, hd3, hd4⟩)
        · have HL := HE.out
          rw [hr3] at HL
          have HS : Hid (indexL C.ts C.s.size ex f (.mk k n kids pp) q = R) := HL.symm
          have hlt3 : w.heap.size < w3.heap.size := HZ.out.lt
          have hne3 : w3.heap.size ≠ C.pb := by omega
          have AA := ho3.size
          have HK3 : Hid (NdRow (w3.alloc (.cells #[.int .i64 k, .string ⟨n.toArray⟩, .slice y kids.length c, .int .i64 pp] 53)) (fun b => w.heap.size < b ∧ b ≠ w3.heap.size) kids y) := NdRow.mono (fun b h1 h2 => by omega) (fun b _ h2 => Below.heap_alloc _ _ b h2) _ _ hk3
          have HS3 : Hid (PSt C (w3.alloc (.cells #[.int .i64 k, .string ⟨n.toArray⟩, .slice y kids.length c, .int .i64 pp] 53)) q) := hs3.below ((Below.refl _ _).alloc (Nat.le_refl _) _)
          have HO3 : Hid (Ow C.pb w (w3.alloc (.cells #[.int .i64 k, .string ⟨n.toArray⟩, .slice y kids.length c, .int .i64 pp] 53))) := (HO1.out.trans ho3).alloc _
          have HZ3 : Hid (Box4 (w3.alloc (.cells #[.int .i64 k, .string ⟨n.toArray⟩, .slice y kids.length c, .int .i64 pp] 53)) w.heap.size (.int .i64 0) (.string ⟨#[]⟩) (.slice none 0 0) (.int .i64 0)) := HZ.out.alloc _
          have HX3 : Hid (Box4 (w3.alloc (.cells #[.int .i64 k, .string ⟨n.toArray⟩, .slice y kids.length c, .int .i64 pp] 53)) w3.heap.size (.int .i64 k) (.string ⟨n.toArray⟩) (.slice y kids.length c) (.int .i64 pp)) := Box4.new _ _ _ _ _
          clear hr3 hk3 hs3 ho3 z0 z1 z2 z3 zf HZ HE HL
          go_wp2_with fail
          go_loopg [] f (fun gg wx => ∃ k n, ∃ kids : List Nd, ∃ pp y, ∃ c : Cp kids.length, ∃ q, Box4 wx w.heap.size (.int .i64 0) (.string ⟨#[]⟩) (.slice none 0 0) (.int .i64 0) ∧ Box4 wx w3.heap.size (.int .i64 k) (.string ⟨n.toArray⟩) (.slice y (List.length kids) c) (.int .i64 pp) ∧ NdRow wx (fun b => w.heap.size < b ∧ b ≠ w3.heap.size) kids y ∧ PSt C wx q ∧ Ow C.pb w wx ∧ Hid (indexL C.ts C.s.size ex gg (.mk k n kids pp) q = R))
          case atStart => exact ⟨k, n, kids, pp, y, c, q, HZ3.out, HX3.out, HK3.out, HS3.out, HO3.out, HS⟩
          case round =>
            clear HZ3 HX3 HK3 HS3 HO3 HS
            obtain ⟨k, n, kids, pp, y, c, q, hZ, hX, hK, hs, ho, hS⟩ := hrel
            obtain ⟨g', rfl⟩ : ∃ g', gk = g' + 1 := by
              cases gk with
              | zero => exact absurd hS.out.symm HNE.out
              | succ g' => exact ⟨g', rfl⟩
            have hltr := hX.lt
            have c1 := is_x C q [91] wr hs _ (fun w' ho' => And.intro (hZ.x ho' hne0) (And.intro (hX.x ho' hne3) (hK.ow ho' (fun b hb => by omega))))
            have HO := Lib.hid ho
            clear hZ hX hK hs ho
            go_wp2_with fail
            refine c1.mono ?_
            clear c1
            rintro e w4 (⟨hB, rfl, hs4, ho4, ⟨⟨z0, z1, z2, z3, zf⟩, HZ⟩, ⟨⟨x0, x1, x2, x3, xf⟩, HX⟩, hk4⟩ | ⟨hB, rfl, hs4, ho4, ⟨⟨z0, z1, z2, z3, zf⟩, HZ⟩, ⟨⟨x0, x1, x2, x3, xf⟩, HX⟩, hk4⟩)
            · obtain ⟨pq, hpq⟩ : ∃ pq, placeT C.ts C.s.size q = pq := ⟨_, rfl⟩
              have HL := hS.out
              rw [indexL_step hB, hpq] at HL
              have HL' := Lib.hid HL
              have hBt := Lib.hid hB
              have c2 := take_x C q [91] w4 hs4 _ (fun w' ho' => And.intro (HZ.out.x ho' hne0) (And.intro (HX.out.x ho' hne3) (hk4.ow ho' (fun b hb => by omega))))
              rw [hpq] at c2
              have HO4 := Lib.hid (HO.out.trans ho4)
              clear hs4 ho4 hk4 z0 z1 z2 z3 zf HZ x0 x1 x2 x3 xf HX hB hpq HL hS HO
              go_wp2_with fail
              refine c2.mono ?_
              clear c2
              rintro e w5 (⟨q5, hr5, rfl, hs5, ho5, ⟨⟨z0, z1, z2, z3, zf⟩, HZ⟩, ⟨⟨x0, x1, x2, x3, xf⟩, HX⟩, hk5⟩ | ⟨hr5, b, hd1, rfl, hd3, hd4⟩)
              · obtain rfl : q5 = q + 1 := by
                  unfold takeP at hr5
                  rw [hBt.out] at hr5
                  simp at hr5
                  omega
                have hlt5 := HX.out.lt
                have hne5 : w5.heap.size ≠ C.pb := by have := HO4.out.size; have := ho5.size; omega
                have hs6 : PSt C (w5.alloc (.cells #[.int .i64 14, .string ⟨#[]⟩, .slice none 0 0, .int .i64 pq] 53)).drew (q + 1) := hs5.below (((Below.refl _ _).alloc (Nat.le_refl _) _).drew)
                have HZ6 : Box4 (w5.alloc (.cells #[.int .i64 14, .string ⟨#[]⟩, .slice none 0 0, .int .i64 pq] 53)).drew w.heap.size (.int .i64 0) (.string ⟨#[]⟩) (.slice none 0 0) (.int .i64 0) := HZ.out.alloc _
                have HX6 : Box4 (w5.alloc (.cells #[.int .i64 14, .string ⟨#[]⟩, .slice none 0 0, .int .i64 pq] 53)).drew w3.heap.size (.int .i64 k) (.string ⟨n.toArray⟩) (.slice y (List.length kids) c) (.int .i64 pp) := HX.out.alloc _
                have HN6 : Box4 (w5.alloc (.cells #[.int .i64 14, .string ⟨#[]⟩, .slice none 0 0, .int .i64 pq] 53)).drew w5.heap.size (.int .i64 14) (.string ⟨#[]⟩) (.slice none 0 0) (.int .i64 pq) := Box4.new w5 _ _ _ _
                have hk6 : NdRow (w5.alloc (.cells #[.int .i64 14, .string ⟨#[]⟩, .slice none 0 0, .int .i64 pq] 53)).drew (fun b => (w.heap.size < b ∧ b ≠ w3.heap.size) ∧ b < w5.heap.size) kids y := NdRow.mono (w' := (w5.alloc (.cells #[.int .i64 14, .string ⟨#[]⟩, .slice none 0 0, .int .i64 pq] 53)).drew) (ok' := fun b => (w.heap.size < b ∧ b ≠ w3.heap.size) ∧ b < w5.heap.size) (fun b h1 h2 => ⟨h1, h2⟩) (fun b _ h2 => Below.heap_alloc w5 (.cells #[.int .i64 14, .string ⟨#[]⟩, .slice none 0 0, .int .i64 pq] 53) b h2) _ _ hk5
                have hx0 : ex (q + 1) ≠ .out := fun e => HNE.out (by rw [← HL'.out, e]; rfl)
                have c3 := HHX.out _ (q + 1) hs6 trivial hx0
                have hX7 := fun w' (ho' : Ow C.pb _ w') => And.intro (HZ6.x ho' hne0) (And.intro (HX6.x ho' hne3) (And.intro (HN6.x ho' hne5) (hk6.ow ho' (fun b hb => by omega))))
                have HO6 : Hid (Ow C.pb w (w5.alloc (.cells #[.int .i64 14, .string ⟨#[]⟩, .slice none 0 0, .int .i64 pq] 53)).drew) := ((HO4.out.trans ho5).alloc _).drew
                have m0 := fun o => al_cell z0 o
                have m1 := fun o => al_cell z1 o
                have m2 := fun o => al_cell z2 o
                have m3 := fun o => al_cell z3 o
                have v0 := fun o => al_cell x0 o
                have v1 := fun o => al_cell x1 o
                have v2 := fun o => al_cell x2 o
                have v3 := fun o => al_cell x3 o
                cases hres : ex (q + 1) with
                | out => exact absurd hres hx0
                | bad q7 =>
                  have c4 := node_bad c3 hres
                  have HRES := Lib.hid hres
                  clear hr5 hs5 ho5 hk5 hs6 HZ6 HX6 HN6 hk6 hx0 z0 z1 z2 z3 zf HZ x0 x1 x2 x3 xf HX hX7 c3 hres
                  go_wp2_with fail
                  go_region_dies
                  all_goals (refine c4.mono ?_; rintro e w7 ⟨b, hd1, rfl, hd3, hd4⟩; exact ⟨rfl, .inr ⟨q7, by rw [← HL'.out, HRES.out]; rfl, b, Nat.le_trans HO6.out.size hd1, rfl, hd3, HO6.out.trans hd4⟩⟩)
                | ok nd q7 =>
                  obtain ⟨k', n', kids', pp'⟩ := nd
                  have c4 := node_ok c3 hres _ hX7
                  have HRES := Lib.hid hres
                  clear hr5 hs5 ho5 hk5 hs6 HZ6 HX6 HN6 hk6 hx0 z0 z1 z2 z3 zf HZ x0 x1 x2 x3 xf HX hX7 c3 hres
                  go_wp2_with fail
                  go_region_with (first | (go_at_call 109; (with_reducible refine c4.mono ?_); rintro e w7 ⟨y', c', rfl, hk7, hs7, ho7, ⟨⟨z0, z1, z2, z3, zf⟩, HZ⟩, ⟨⟨x0, x1, x2, x3, xf⟩, HX⟩, ⟨⟨n0, n1, n2, n3, nf⟩, HN⟩, hkk⟩; have l2 := fun o => al_cell n2 o; have lf := fun ob o => ((HN.out.alloc ob).facts).2.2.2.2 o))
                  all_goals (
                    have hsz7 := ho7.size
                    have hsz5 : w5.heap.size + 1 ≤ w7.heap.size := by simpa using hsz7
                    have HO7 := Lib.hid (HO6.out.trans ho7)
                    have hszw := HO4.out.size
                    have hneb : w.heap.size ≠ w5.heap.size := by omega
                    have hneb3 : w3.heap.size ≠ w5.heap.size := by omega
                    have hrow8 : NdRow ((w7.alloc (.cells #[.int .i64 k, .string ⟨n.toArray⟩, .slice y (List.length kids) c, .int .i64 pp, .int .i64 k', .string ⟨n'.toArray⟩, .slice y' (List.length kids') c', .int .i64 pp'] 53)).setCell ⟨w5.heap.size, 2, none⟩ (.slice (some ⟨w7.heap.size, 0, none⟩) 2 2)) (fun b => (w.heap.size < b ∧ b ≠ w3.heap.size) ∧ b ≠ w5.heap.size) [.mk k n kids pp, .mk k' n' kids' pp'] (some ⟨w7.heap.size, 0, none⟩) :=
                      (NdRow.buildK (ok := fun b => (w.heap.size < b ∧ b ≠ w3.heap.size) ∧ b ≠ w5.heap.size) (by omega) (NFlat.two ((hkk.wide (fun b hb _ => by omega)).cells (k := k) (n := n) (p := pp) (c := c)) ((hk7.wide (fun b hb _ => by have h9 : w5.heap.size + 1 ≤ b := (by simpa using hb); omega)).cells (k := k') (n := n') (p := pp') (c := c')))).set (fun b hb => hb.2)
                    have HR8 := Lib.hid hrow8
                    have hs8 := H0.out.keep hs7 (((Kp.refl _ _).alloc (by omega) (.cells #[.int .i64 k, .string ⟨n.toArray⟩, .slice y (List.length kids) c, .int .i64 pp, .int .i64 k', .string ⟨n'.toArray⟩, .slice y' (List.length kids') c', .int .i64 pp'] 53)).set (k := w5.heap.size) (o := 2) (v := .slice (some ⟨w7.heap.size, 0, none⟩) 2 2) (by omega))
                    have HS8 := Lib.hid hs8
                    have HZ8 := Lib.hid (Box4.other (k := w5.heap.size) (o := 2) (v := .slice (some ⟨w7.heap.size, 0, none⟩) 2 2) (HZ.out.alloc (.cells #[.int .i64 k, .string ⟨n.toArray⟩, .slice y (List.length kids) c, .int .i64 pp, .int .i64 k', .string ⟨n'.toArray⟩, .slice y' (List.length kids') c', .int .i64 pp'] 53)) hneb)
                    have HX8 := Lib.hid (Box4.other (k := w5.heap.size) (o := 2) (v := .slice (some ⟨w7.heap.size, 0, none⟩) 2 2) (HX.out.alloc (.cells #[.int .i64 k, .string ⟨n.toArray⟩, .slice y (List.length kids) c, .int .i64 pp, .int .i64 k', .string ⟨n'.toArray⟩, .slice y' (List.length kids') c', .int .i64 pp'] 53)) hneb3)
                    have HN8 := Lib.hid (Box4.set2 (v := .slice (some ⟨w7.heap.size, 0, none⟩) 2 2) (HN.out.alloc (.cells #[.int .i64 k, .string ⟨n.toArray⟩, .slice y (List.length kids) c, .int .i64 pp, .int .i64 k', .string ⟨n'.toArray⟩, .slice y' (List.length kids') c', .int .i64 pp'] 53)))
                    have c5 := take_x C q7 [93] _ HS8.out _ (fun w' ho' => And.intro (HZ8.out.x ho' hne0) (And.intro (HX8.out.x ho' hne3) (And.intro (HN8.out.x ho' hne5) (HR8.out.ow ho' (fun b hb => by omega)))))
                    have HO8 : Hid (Ow C.pb w ((w7.alloc (.cells #[.int .i64 k, .string ⟨n.toArray⟩, .slice y (List.length kids) c, .int .i64 pp, .int .i64 k', .string ⟨n'.toArray⟩, .slice y' (List.length kids') c', .int .i64 pp'] 53)).setCell ⟨w5.heap.size, 2, none⟩ (.slice (some ⟨w7.heap.size, 0, none⟩) 2 2))) := Lib.hid ((HO7.out.alloc _).set (by omega))
                    clear hk7 hs7 ho7 hkk z0 z1 z2 z3 zf HZ x0 x1 x2 x3 xf HX n0 n1 n2 n3 nf HN l2 lf hrow8 hs8 m0 m1 m2 m3 v0 v1 v2 v3
                    go_wp2_with fail
                    refine c5.mono ?_
                    clear c5
                    rintro e w9 (⟨q9, hr9, rfl, hs9, ho9, ⟨⟨z0, z1, z2, z3, zf⟩, HZ⟩, ⟨⟨x0, x1, x2, x3, xf⟩, HX⟩, ⟨⟨n0, n1, n2, n3, nf⟩, HN⟩, hk9⟩ | ⟨hr9, b, hd1, rfl, hd3, hd4⟩)
                    · have HK9 := Lib.hid hk9
                      have HR9 := Lib.hid hr9
                      have HO9 := Lib.hid (HO8.out.trans ho9)
                      have HS9 := Lib.hid hs9
                      clear hk9 hr9 ho9 hs9
                      go_wp2_with fail
                      go_roundg g'
                      case measure => omega
                      case rel =>
                        refine ⟨14, [], [.mk k n kids pp, .mk k' n' kids' pp'], pq, some ⟨w7.heap.size, 0, none⟩, ⟨2, Nat.le_refl _⟩, q9, HZ.out.other4 (by omega), HX.out.set4, (HK9.out.set4 (fun b hb => hb.1.2)).wide (fun b hb _ => hb.1), H0.out.keep HS9.out ((Kp.refl _ _).set4 (by omega)), HO9.out.set4 (by omega), ?_⟩
                        have h1 := HL'.out
                        rw [HRES.out] at h1
                        simp only [Res.bind] at h1
                        rw [HR9.out] at h1
                        exact h1
                    · refine ⟨rfl, .inr ⟨q7, ?_, b, Nat.le_trans HO8.out.size hd1, rfl, hd3, HO8.out.trans hd4⟩⟩
                      have h1 := HL'.out
                      rw [HRES.out] at h1
                      simp only [Res.bind] at h1
                      rw [hr9] at h1
                      exact h1.symm)
              · exfalso
                unfold takeP at hr5
                rw [hBt.out] at hr5
                simp at hr5
            · have HL := hS.out
              rw [indexL_end hB] at HL
              have HE2 := Lib.hid HL
              have HK4 := Lib.hid hk4
              clear hk4 HL hB
              go_wp2_with fail
              refine ret_node rfl rfl rfl (by simp [go_sem, z0]) (by simp [go_sem, z1]) (by simp [go_sem, z2]) (by simp [go_sem, z3]) (.inl ⟨k, n, kids, pp, y, c, q, HE2.out.symm, rfl, (HK4.out.set4 (fun b hb => by omega)).wide (fun b hb _ => by omega), H0.out.keep hs4 ((Kp.refl _ _).set4 (Nat.le_refl _)), (HO.out.trans ho4).set4 (Nat.le_refl _)⟩)
        · refine ⟨rfl, .inr ⟨q, ?_, b, Nat.le_trans HO1.out.size hd1, rfl, hd3, HO1.out.trans hd4⟩⟩
          rw [HE.out, hr3]
          rfl
end Go.Proofs.YtpbkeamjdolpgaaGreatDoor
