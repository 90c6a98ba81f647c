/- The walk of tree.kinds. The walks of tree.part, and of its closure. Where the tokens of a text stand. Plain laws: words do not look beyond a blank; the tokens of two texts on two lines. Plain: a token cut out of a text is that token; blanks and comments. -/
import Derived.Test.YtpbkeamjdolpgaaGreatDoorB06
import Derived.BigQuiet
import Derived.Deep.QuietTactic
import Derived.Lib.QuietBelow
import Derived.Lib.SpaceUEq
namespace Go.Proofs.YtpbkeamjdolpgaaGreatDoor
open Go.RowKit Go.Lib Go.Shelf Go.Sort

/-- Is a node of a wanted kind (-1: an expression), and right? -/
def tstR (w : Int) (x : Nd) : Bool := if w < 0 then exR x else decide (x.kind = w) && partR x
theorem shR_take : ∀ (ws : List Int) (l : List Nd), l.length ≤ ws.length → (shR (ws.take l.length) l = true ↔ ∀ (i : Nat) (w : Int) (x : Nd), ws[i]? = some w → l[i]? = some x → tstR w x = true)
  | ws, [], _ => by
    rw [List.length_nil, List.take_zero]
    exact ⟨fun _ i w x _ h => by simp at h, fun _ => rfl⟩
  | [], x :: l, h => by simp at h
  | w :: ws, x :: l, h => by
    have ih := shR_take ws l (by simp at h; omega)
    have e : shR ((w :: ws).take (x :: l).length) (x :: l) = (tstR w x && shR (ws.take l.length) l) := rfl
    rw [e, Bool.and_eq_true, ih]
    constructor
    · rintro ⟨h1, h2⟩ i v y hv hy
      cases i with
      | zero =>
        cases hv
        cases hy
        exact h1
      | succ i => exact h2 i v y (by simpa using hv) (by simpa using hy)
    · intro h
      exact ⟨h 0 w x rfl rfl, fun i v y hv hy => h (i + 1) v y (by simpa using hv) (by simpa using hy)⟩
theorem shR_len : ∀ (ws : List Int) (l : List Nd), shR ws l = true → ws.length = l.length
  | [], [], _ => rfl
  | [], _ :: _, h => by cases h
  | _ :: _, [], h => by cases h
  | w :: ws, x :: l, h => by
    have e : (tstR w x && shR ws l) = true := h
    rw [Bool.and_eq_true] at e
    rw [List.length_cons, List.length_cons, shR_len ws l e.2]
def kindsR (short : Bool) (ws : List Int) (l : List Nd) : Bool := (decide (l.length = ws.length) || (short && decide (l.length + 1 = ws.length))) && shR (ws.take l.length) l
def IntRow (w : World) (g : Nat) (ws : List Int) : Prop := ∀ j u, ws[j]? = some u → w.cell? ⟨g, j, none⟩ = some (.int .i64 u)
theorem IntRow.below {w w' : World} {g : Nat} {ws : List Int} (h : IntRow w g ws) (hb : Below w.heap.size w w') : IntRow w' g ws :=
  fun j u hj => (hb.cell (p := ⟨g, j, none⟩) (World.block_lt_of_cell? w _ (h j u hj))).trans (h j u hj)
set_option maxHeartbeats 4000000 in
set_option maxRecDepth 100000 in
/-- Where the numbers do not fit. -/
theorem kinds_no (short : Bool) (n m : Nat) (_hn : n < 2 ^ 62) (hm : m ≤ 3) (h1 : n ≠ m) (h2 : short = true → n + 1 ≠ m) (y : Option Addr) (c g cm : Nat) (w : World) :
    Calls Tryz.prog 93 #[.slice y n c, .bool short, .slice (some ⟨g, 0, none⟩) m cm] w fun e w' => e = .returned (.bool false) ∧ w = w' := by
  have Q1 : ((n : Int) != (m : Int)) = true := by rw [bne_iff_ne]; omega
  have Q2 : short = true → ((n : Int) == (m : Int) - 1) = false := fun h => beq_eq_false_iff_ne.2 (by have := h2 h; omega)
  have Q3 : IntKind.i64.wrap ((m : Int) - 1) = (m : Int) - 1 := IntWalk.i64_in _ (by omega)
  cases short
  · clear Q2 h1 h2
    go_enter Tryz.func93, Tryz.ntmps93
    go_wp2_with fail
    go_ret
    exact ⟨rfl, rfl⟩
  · have Q4 := Q2 rfl
    clear Q2 h1 h2
    go_enter Tryz.func93, Tryz.ntmps93
    go_wp2_with fail
    go_ret
    exact ⟨rfl, rfl⟩
set_option maxHeartbeats 8000000 in
set_option maxRecDepth 100000 in
theorem kinds_yes (ok : Nat → Prop) (short : Bool) (ws : List Int) (m : Nat) (hm : ws.length = m) (hm3 : m ≤ 3) (l : List Nd) (n : Nat) (hl : l.length = n) (hs : n = m ∨ short = true ∧ n + 1 = m) (y : Option Addr) (c g cm : Nat) (w : World) (hrow : NdRow w ok l y) (hi : IntRow w g ws) (h : ∀ x ∈ l, OneQ 147 [] ok exR w x ∧ OneQ 148 [] ok partR w x) :
    Calls Tryz.prog 93 #[.slice y n c, .bool short, .slice (some ⟨g, 0, none⟩) m cm] w (Yes (shR (ws.take n) l) w) := by
  have hnm : n ≤ m := by omega
  have Q1 : ((n : Int) != (m : Int)) = false ∨ (((n : Int) != (m : Int)) = true ∧ short = true ∧ ((n : Int) == (m : Int) - 1) = true) := by
    rcases hs with h | ⟨h1, h2⟩
    · left; rw [bne_eq_false_iff_eq]; omega
    · right; exact ⟨by rw [bne_iff_ne]; omega, h1, beq_iff_eq.2 (by omega)⟩
  have Q3 : IntKind.i64.wrap ((m : Int) - 1) = (m : Int) - 1 := IntWalk.i64_in _ (by omega)
  have hsh := shR_take ws l (by omega)
  rw [hl] at hsh
  obtain ⟨R, hR⟩ : ∃ R, shR (ws.take n) l = R := ⟨_, rfl⟩
  rw [hR] at hsh ⊢
  have HSH := Lib.hid hsh
  have HL := Lib.hid hl
  have HM := Lib.hid hm
  have HROW := Lib.hid hrow
  have HI := Lib.hid hi
  have HH := Lib.hid h
  clear h hrow hi hl hm hsh hR hs
  have eg := enters_of Tryz.func147 (by kernel_rfl) rfl
  go_enter Tryz.func93, Tryz.ntmps93
  rcases Q1 with Q1 | ⟨Q1, rfl, Q2⟩
  all_goals (
    go_wp2_with fail
    go_loopw [27] (fun v wx => ∃ i : Nat, v = .int .i64 i ∧ i ≤ n ∧ Below w.heap.size w wx ∧ Hid (∀ (j : Nat) (u : Int) (x : Nd), j < i → ws[j]? = some u → l[j]? = some x → tstR u x = true)) (fun v _ => n - (RowKit.intOf v).toNat)
    case atStart => exact ⟨0, rfl, Nat.zero_le _, Below.refl _ _, fun j u x hj => by omega⟩
    case round =>
      obtain ⟨i, rfl, hin, hb, hf⟩ := hrel
      by_cases hlt : i < n
      · obtain ⟨x, hx⟩ : ∃ u, l[i]? = some u := ⟨l[i]'(by have := HL.out; omega), List.getElem?_eq_getElem _⟩
        obtain ⟨wi, hwi⟩ : ∃ u, ws[i]? = some u := ⟨ws[i]'(by have := HM.out; omega), List.getElem?_eq_getElem _⟩
        obtain ⟨B, o, rfl, hat⟩ := (HROW.out.below hb).at_ hx
        obtain ⟨k, nm, z, kids, cc, p, rfl, x0, x1, x2, x3, hk⟩ := hat.val
        have w0 := (HI.out.below hb) i wi hwi
        have c1 := (HH.out _ (List.mem_of_getElem? hx)).1 (.agg #[.int .i64 k, .string ⟨nm.toArray⟩, .slice z kids.length cc, .int .i64 p])
        have c2 := (HH.out _ (List.mem_of_getElem? hx)).2 (.agg #[.int .i64 k, .string ⟨nm.toArray⟩, .slice z kids.length cc, .int .i64 p])
        simp only [List.append_toArray, List.cons_append, List.nil_append] at c1 c2
        have HWN : Hid (∀ wx, Below wr.heap.size wr wx → wx.cell? ⟨g, i, none⟩ = some (.int .i64 wi)) := fun wx h => ((HI.out.below (tr hb h)) i wi hwi)
        have hi1 : (i : Int) < (n : Int) := by omega
        have hi2 : (i : Int) < (m : Int) := by omega
        have Qi : IntKind.i64.wrap ((i : Int) + 1) = (i : Int) + 1 := IntWalk.i64_in _ (by omega)
        have HNX : Hid (tstR wi (.mk k nm kids p) = true → ∀ (j : Nat) (u : Int) (x : Nd), j < i + 1 → ws[j]? = some u → l[j]? = some x → tstR u x = true) := fun ht j u x' hj hu hx' => by
          by_cases e : j = i
          · subst e
            rw [hwi] at hu
            rw [hx] at hx'
            cases hu
            cases hx'
            exact ht
          · exact hf.out j u x' (by omega) hu hx'
        have HNO : Hid (tstR wi (.mk k nm kids p) = false → R = false) := fun ht => by
          cases hR : R
          · rfl
          · have := HSH.out.1 hR i wi _ hwi hx
            rw [ht] at this
            cases this
        have C1 := Lib.hid (fun wx (h : Below wr.heap.size wr wx) => c1 wx (tr hb h) ⟨z, cc, rfl, hk.below h⟩)
        have C2 := Lib.hid (fun wx (h : Below wr.heap.size wr wx) => c2 wx (tr hb h) ⟨z, cc, rfl, hk.below h⟩)
        clear hk hat c1 c2 hwi hx hf
        by_cases hw : wi < 0
        · have Qw : decide (wi < 0) = true := by simp; omega
          have Qw2 : decide (0 ≤ wi) = false := by simp; omega
          have Qw3 : decide (wi ≥ 0) = false := by simp; omega
          have ht : Hid (tstR wi (.mk k nm kids p) = exR (.mk k nm kids p)) := by
            show tstR wi _ = _
            unfold tstR
            rw [if_pos hw]
          cases hE : exR (.mk k nm kids p)
          · have HN := Lib.hid (HNO.out (by rw [ht.out, hE]))
            have C3 : Hid (∀ wx, Below wr.heap.size wr wx → Calls Tryz.prog 147 #[.agg #[.int .i64 k, .string ⟨nm.toArray⟩, .slice z kids.length cc, .int .i64 p]] wx (Yes false wx)) := fun wx h => by
              have := C1.out wx h
              rw [hE] at this
              exact this
            clear hE ht HNO HNX C1 C2
            go_wp2_with fail
            have cE := fun d os => Calls.regrown_of (C3.out _ (below_regrown wr d os))
            have y0 := cell_regrown x0
            have y1 := cell_regrown x1
            have y2 := cell_regrown x2
            have y3 := cell_regrown x3
            have y4 := cell_regrown w0
            refine wp_region_quiet_below (by kernel_rfl) (by kernel_rfl) ?_
            repeat (go_big_quiet_step (exact cE _ _))
            refine wpQuiet_nil ?_
            intro _ hw'
            obtain ⟨⟨dq, osq⟩, hw''⟩ := hw'
            subst hw''
            have hb2 := below_regrown wr dq osq
            generalize grow (redrawn wr dq) osq = w2 at *
            clear y0 y1 y2 y3 y4 cE
            all_goals (
              go_wp2_with fail
              go_ret
              exact ⟨by rw [HN.out]; rfl, tr hb hb2⟩)
          · have HN := Lib.hid (HNX.out (by rw [ht.out, hE]))
            have C3 : Hid (∀ wx, Below wr.heap.size wr wx → Calls Tryz.prog 147 #[.agg #[.int .i64 k, .string ⟨nm.toArray⟩, .slice z kids.length cc, .int .i64 p]] wx (Yes true wx)) := fun wx h => by
              have := C1.out wx h
              rw [hE] at this
              exact this
            clear hE ht HNO HNX C1 C2
            go_wp2_with fail
            have cE := fun d os => Calls.regrown_of (C3.out _ (below_regrown wr d os))
            have y0 := cell_regrown x0
            have y1 := cell_regrown x1
            have y2 := cell_regrown x2
            have y3 := cell_regrown x3
            have y4 := cell_regrown w0
            refine wp_region_quiet_below (by kernel_rfl) (by kernel_rfl) ?_
            repeat (go_big_quiet_step (exact cE _ _))
            refine wpQuiet_nil ?_
            intro _ hw'
            obtain ⟨⟨dq, osq⟩, hw''⟩ := hw'
            subst hw''
            have hb2 := below_regrown wr dq osq
            generalize grow (redrawn wr dq) osq = w2 at *
            clear y0 y1 y2 y3 y4 cE
            all_goals (
              go_wp2_with fail
              go_roundw
              case rel => exact ⟨i + 1, by go_num, by omega, tr hb hb2, HN⟩
              case measure => simp [RowKit.intOf]; omega)
        · have Qw : decide (wi < 0) = false := by simp; omega
          have Qw2 : decide (0 ≤ wi) = true := by simp; omega
          have Qw3 : decide (wi ≥ 0) = true := by simp; omega
          by_cases hkw : k = wi
          · have ht : Hid (tstR wi (.mk k nm kids p) = partR (.mk k nm kids p)) := by
              show tstR wi _ = _
              unfold tstR
              rw [if_neg hw, show (Nd.mk k nm kids p).kind = k from rfl, hkw]
              simp
            have Qk : (k != wi) = false := by rw [bne_eq_false_iff_eq]; exact hkw
            cases hE : partR (.mk k nm kids p)
            · have HN := Lib.hid (HNO.out (by rw [ht.out, hE]))
              have C3 : Hid (∀ wx, Below wr.heap.size wr wx → Calls Tryz.prog 148 #[.agg #[.int .i64 k, .string ⟨nm.toArray⟩, .slice z kids.length cc, .int .i64 p]] wx (Yes false wx)) := fun wx h => by
                have := C2.out wx h
                rw [hE] at this
                exact this
              clear hE ht HNO HNX C1 C2 hkw
              go_wp2_with fail
              have cE := fun d os => Calls.regrown_of (C3.out _ (below_regrown wr d os))
              have y0 := cell_regrown x0
              have y1 := cell_regrown x1
              have y2 := cell_regrown x2
              have y3 := cell_regrown x3
              have y4 := cell_regrown w0
              refine wp_region_quiet_below (by kernel_rfl) (by kernel_rfl) ?_
              repeat (go_big_quiet_step (exact cE _ _))
              refine wpQuiet_nil ?_
              intro _ hw'
              obtain ⟨⟨dq, osq⟩, hw''⟩ := hw'
              subst hw''
              have hb2 := below_regrown wr dq osq
              generalize grow (redrawn wr dq) osq = w2 at *
              clear y0 y1 y2 y3 y4 cE
              all_goals (
                go_wp2_with fail
                go_ret
                exact ⟨by rw [HN.out]; rfl, tr hb hb2⟩)
            · have HN := Lib.hid (HNX.out (by rw [ht.out, hE]))
              have C3 : Hid (∀ wx, Below wr.heap.size wr wx → Calls Tryz.prog 148 #[.agg #[.int .i64 k, .string ⟨nm.toArray⟩, .slice z kids.length cc, .int .i64 p]] wx (Yes true wx)) := fun wx h => by
                have := C2.out wx h
                rw [hE] at this
                exact this
              clear hE ht HNO HNX C1 C2 hkw
              go_wp2_with fail
              have cE := fun d os => Calls.regrown_of (C3.out _ (below_regrown wr d os))
              have y0 := cell_regrown x0
              have y1 := cell_regrown x1
              have y2 := cell_regrown x2
              have y3 := cell_regrown x3
              have y4 := cell_regrown w0
              refine wp_region_quiet_below (by kernel_rfl) (by kernel_rfl) ?_
              repeat (go_big_quiet_step (exact cE _ _))
              refine wpQuiet_nil ?_
              intro _ hw'
              obtain ⟨⟨dq, osq⟩, hw''⟩ := hw'
              subst hw''
              have hb2 := below_regrown wr dq osq
              generalize grow (redrawn wr dq) osq = w2 at *
              clear y0 y1 y2 y3 y4 cE
              all_goals (
                go_wp2_with fail
                go_roundw
                case rel => exact ⟨i + 1, by go_num, by omega, tr hb hb2, HN⟩
                case measure => simp [RowKit.intOf]; omega)
          · have ht : tstR wi (.mk k nm kids p) = false := by
              unfold tstR
              rw [if_neg hw, show (Nd.mk k nm kids p).kind = k from rfl]
              simp [hkw]
            have Qk : (k != wi) = true := by rw [bne_iff_ne]; exact hkw
            have HN := Lib.hid (HNO.out ht)
            clear ht HNO HNX C1 C2 hkw
            go_wp2_with fail
            go_quiet (fail)
            go_wp2_with fail
            go_ret
            exact ⟨by rw [HN.out]; rfl, bdn hb _⟩
      · have hR : Hid (R = true) := HSH.out.2 fun j u x hu hx => hf.out j u x (by have := (List.getElem?_eq_some_iff.1 hx).1; have := HL.out; omega) hu hx
        have hi1 : ¬ (i : Int) < (n : Int) := by omega
        clear hf
        go_wp2_with fail
        go_ret
        exact ⟨by rw [hR.out]; rfl, hb⟩)
end Go.Proofs.YtpbkeamjdolpgaaGreatDoor
namespace Go.Proofs.YtpbkeamjdolpgaaGreatDoor
open Go.RowKit Go.Lib Go.Shelf Go.Sort

theorem exsR_all : ∀ l : List Nd, exsR l = l.all exR
  | [] => rfl
  | x :: r => by
    show (exR x && exsR r) = _
    rw [exsR_all r, List.all_cons]
theorem stsR_all : ∀ l : List Nd, stsR l = l.all stR
  | [] => rfl
  | x :: r => by
    show (stR x && stsR r) = _
    rw [stsR_all r, List.all_cons]
theorem parsR_all : ∀ l : List Nd, parsR l = l.all fun x => decide (x.kind = 10) && exR x
  | [] => rfl
  | x :: r => by
    show ((decide (x.kind = 10) && exR x) && parsR r) = _
    rw [parsR_all r, List.all_cons]
/-- What is known of the parts of a node. -/
def KidsOk (ok : Nat → Prop) (w : World) (l : List Nd) : Prop := ∀ x ∈ l, OneQ 147 [] ok exR w x ∧ OneQ 52 [] ok stR w x ∧ OneQ 148 [] ok partR w x
theorem KidsOk.below {ok : Nat → Prop} {w w1 : World} {l : List Nd} (h : KidsOk ok w l) (hb : Below w.heap.size w w1) : KidsOk ok w1 l := fun x hx => ⟨(h x hx).1.below hb, (h x hx).2.1.below hb, (h x hx).2.2.below hb⟩
/-- A node as a variable of a call's own. -/
def ndO (k : Int) (n : List UInt8) (y : Option Addr) (m c : Nat) (p : Int) : Obj := .cells #[.int .i64 k, .string ⟨n.toArray⟩, .slice y m c, .int .i64 p] 53
set_option maxHeartbeats 4000000 in
set_option maxRecDepth 100000 in
theorem part1_any (ok : Nat → Prop) (w0 : World) (x : Nd) (h : OneQ 147 [] ok exR w0 x) : OneQ 188 [] ok (fun x => decide (x.kind = 10) && exR x) w0 x := by
  intro v w1 hb hv
  obtain ⟨k, n, kids, p⟩ := x
  obtain ⟨y, c, rfl, hrow⟩ := hv
  have hA : Below w1.heap.size w1 (w1.alloc (ndO k n y kids.length c p)) := (Below.refl _ _).alloc (Nat.le_refl _) _
  have c1 := h (.agg #[.int .i64 k, .string ⟨n.toArray⟩, .slice y kids.length c, .int .i64 p]) _ (tr hb hA) ⟨y, c, rfl, hrow.below hA⟩
  have HA := Lib.hid hA
  simp only [List.append_toArray, List.cons_append, List.nil_append] at c1
  show Calls _ _ _ _ (Yes (decide (k = 10) && exR (.mk k n kids p)) w1)
  obtain ⟨B, hB⟩ : ∃ B, exR (.mk k n kids p) = B := ⟨_, rfl⟩
  rw [hB] at c1 ⊢
  simp only [List.append_toArray, List.cons_append, List.nil_append]
  unfold ndO at c1
  clear h hrow hB hb hA
  by_cases hk : k = 10
  · subst hk
    go_enter Tryz.func188, Tryz.ntmps188
    go_wp2_with fail
    refine c1.mono ?_
    clear c1
    rintro e w2 ⟨rfl, hb2⟩
    go_wp2_with fail
    go_ret
    exact ⟨by simp, tr HA.out hb2⟩
  · have Q : (k == 10) = false := beq_eq_false_iff_ne.2 hk
    have e : (decide (k = 10) && B) = false := by simp [hk]
    rw [e]
    clear hk e c1
    go_enter Tryz.func188, Tryz.ntmps188
    go_wp2_with fail
    go_ret
    exact ⟨rfl, HA.out⟩
set_option maxHeartbeats 4000000 in
set_option maxRecDepth 100000 in
theorem part_any (ok : Nat → Prop) (w0 : World) (k : Int) (n : List UInt8) (kids : List Nd) (p : Int) (hl : kids.length < 2 ^ 62) (h : KidsOk ok w0 kids) : OneQ 148 [] ok partR w0 (.mk k n kids p) := by
  intro v w1 hb hv
  obtain ⟨y, c, rfl, hrow⟩ := hv
  have hA : Below w1.heap.size w1 (w1.alloc (ndO k n y kids.length c p)) := (Below.refl _ _).alloc (Nat.le_refl _) _
  have e1 := enters_of Tryz.func147 (by kernel_rfl) rfl
  have e2 := enters_of Tryz.func52 (by kernel_rfl) rfl
  have e3 := enters_of Tryz.func188 (by kernel_rfl) rfl
  have hK := (h.below hb).below hA
  have c1 := all_any 147 e1 ok exR kids kids.length rfl hl y c _ (hrow.below hA) (fun x hx => (hK x hx).1)
  have c2 := all_any 52 e2 ok stR kids kids.length rfl hl y c _ (hrow.below hA) (fun x hx => (hK x hx).2.1)
  have c3 := all_any 188 e3 ok (fun x => decide (x.kind = 10) && exR x) kids kids.length rfl hl y c _ (hrow.below hA) (fun x hx => part1_any ok _ x (hK x hx).1)
  rw [← exsR_all] at c1
  rw [← stsR_all] at c2
  rw [← parsR_all] at c3
  have HA := Lib.hid hA
  show Calls _ _ _ _ (Yes (n.isEmpty && (if k = 0 then stsR kids else if k = 4 then parsR kids else exsR kids)) w1)
  simp only [List.append_toArray, List.cons_append, List.nil_append]
  unfold ndO at c1 c2 c3
  obtain ⟨B1, hB1⟩ : ∃ B, exsR kids = B := ⟨_, rfl⟩
  obtain ⟨B2, hB2⟩ : ∃ B, stsR kids = B := ⟨_, rfl⟩
  obtain ⟨B3, hB3⟩ : ∃ B, parsR kids = B := ⟨_, rfl⟩
  rw [hB1] at c1 ⊢
  rw [hB2] at c2 ⊢
  rw [hB3] at c3 ⊢
  clear h hrow hB1 hB2 hB3 hb hA hK
  by_cases hn : n = []
  · subst hn
    by_cases hk : k = 0
    · subst hk
      clear c1 c3
      go_enter Tryz.func148, Tryz.ntmps148
      go_wp2_with fail
      refine c2.mono ?_
      clear c2
      rintro e w2 ⟨rfl, hb2⟩
      go_wp2_with fail
      go_ret
      exact ⟨by simp, tr HA.out hb2⟩
    · have Q : (k == 0) = false := beq_eq_false_iff_ne.2 hk
      by_cases hk4 : k = 4
      · subst hk4
        clear c1 c2
        go_enter Tryz.func148, Tryz.ntmps148
        go_wp2_with fail
        refine c3.mono ?_
        clear c3
        rintro e w2 ⟨rfl, hb2⟩
        go_wp2_with fail
        go_ret
        exact ⟨by simp, tr HA.out hb2⟩
      · have Q4 : (k == 4) = false := beq_eq_false_iff_ne.2 hk4
        rw [if_neg hk, if_neg hk4]
        clear c2 c3 hk hk4
        go_enter Tryz.func148, Tryz.ntmps148
        go_wp2_with fail
        refine c1.mono ?_
        clear c1
        rintro e w2 ⟨rfl, hb2⟩
        go_wp2_with fail
        go_ret
        exact ⟨by simp, tr HA.out hb2⟩
  · have e : n.isEmpty = false := by simpa using hn
    rw [e, Bool.false_and]
    have Q : (n == []) = false := beq_eq_false_iff_ne.2 hn
    have Qd : ((k == 0) = true ∧ (k == 4) = false) ∨ ((k == 0) = false ∧ (k == 4) = true) ∨ ((k == 0) = false ∧ (k == 4) = false) := by
      by_cases h0 : k = 0
      · subst h0; exact .inl ⟨rfl, rfl⟩
      · by_cases h4 : k = 4
        · subst h4; exact .inr (.inl ⟨rfl, rfl⟩)
        · exact .inr (.inr ⟨beq_eq_false_iff_ne.2 h0, beq_eq_false_iff_ne.2 h4⟩)
    clear c1 c2 c3
    rcases Qd with ⟨Q0, Q4⟩ | ⟨Q0, Q4⟩ | ⟨Q0, Q4⟩
    all_goals (
      go_enter Tryz.func148, Tryz.ntmps148
      go_wp2_with fail
      go_ret
      exact ⟨rfl, HA.out⟩)
end Go.Proofs.YtpbkeamjdolpgaaGreatDoor
namespace Go.Proofs.YtpbkeamjdolpgaaGreatDoor
open Go.RowKit Go.Lib

/-! ### Where tokens stand -/
theorem skipB_take : ∀ (b : Bool) (l : List UInt8), skipB b (l.take (skipB b l)) = skipB b l
  | b, [] => by cases b <;> rfl
  | true, c :: r => by
    have h1 := skipB_take true r
    have h2 := skipB_take false r
    by_cases h : c = 10
    · rw [skipB, if_pos h, Nat.add_comm, List.take_succ_cons, skipB, if_pos h, h2, Nat.add_comm]
    · rw [skipB, if_neg h, Nat.add_comm, List.take_succ_cons, skipB, if_neg h, h1, Nat.add_comm]
  | false, c :: r => by
    have h1 := skipB_take true r
    have h2 := skipB_take false r
    have e0 : skipB false (c :: r) = if isBl c then 1 + skipB false r else if c = 47 ∧ r.head? = some 47 then 1 + skipB true r else 0 := by rw [skipB]
    have e1 : ∀ q, skipB false (c :: q) = if isBl c then 1 + skipB false q else if c = 47 ∧ q.head? = some 47 then 1 + skipB true q else 0 := fun q => by rw [skipB]
    rw [e0]
    by_cases hb : isBl c = true
    · rw [if_pos hb, Nat.add_comm, List.take_succ_cons, e1, if_pos hb, h2, Nat.add_comm]
    · rw [if_neg hb]
      by_cases h : c = 47 ∧ r.head? = some 47
      · rw [if_pos h, Nat.add_comm, List.take_succ_cons, e1, if_neg hb]
        have hp : 0 < skipB true r := by
          cases r with
          | nil => simp at h
          | cons d r => unfold skipB; split <;> omega
        have hh : (r.take (skipB true r)).head? = r.head? := by
          cases r with
          | nil => simp
          | cons d r => obtain ⟨m, hm⟩ : ∃ m, skipB true (d :: r) = m + 1 := ⟨skipB true (d :: r) - 1, by omega⟩; rw [hm]; rfl
        rw [hh, if_pos h, h1, Nat.add_comm]
      · rw [if_neg h]
        rfl

/-- From a place on the tokens stand one behind the other, with blanks and comments between. -/
def PlOk (s : List UInt8) : Nat → List Tk → Prop
  | e, [] => skipL (s.drop e) = (s.drop e).length
  | e, t :: ts => e ≤ t.2.2 ∧ skipL ((s.drop e).take (t.2.2 - e)) = t.2.2 - e ∧ t.2.1 ≠ [] ∧ t.2.2 + t.2.1.length ≤ s.length ∧ (s.drop t.2.2).take t.2.1.length = t.2.1 ∧ PlOk s (t.2.2 + t.2.1.length) ts

theorem toksL_places (s : List UInt8) : ∀ (f n e : Nat) (ts : List Tk), (s.drop e).length ≤ f → e ≤ s.length →
    toksL f n (e + skipL (s.drop e)) (s.drop (e + skipL (s.drop e))) = .ok ts → PlOk s e ts
  | 0, n, e, ts, hf, he, h => by
    simp only [toksL, Except.ok.injEq] at h
    subst h
    have : s.drop e = [] := List.eq_nil_of_length_eq_zero (by omega)
    unfold PlOk
    rw [this]
    rfl
  | f + 1, n, e, ts, hf, he, h => by
    have hsk : skipL (s.drop e) ≤ (s.drop e).length := skipB_le _ _
    have htk : skipL ((s.drop e).take (skipL (s.drop e))) = skipL (s.drop e) := skipB_take false _
    obtain ⟨q, hq⟩ : ∃ q, skipL (s.drop e) = q := ⟨_, rfl⟩
    rw [hq] at h hsk htk
    rw [List.length_drop] at hsk hf
    by_cases hl : s.drop (e + q) = []
    · rw [toksL, if_pos hl] at h
      cases h
      unfold PlOk
      rw [hq, List.length_drop]
      have := congrArg List.length hl
      simp at this
      omega
    · rw [toksL_step _ _ _ _ hl] at h
      have hw := wordL_le (s.drop (e + q))
      rw [List.length_drop] at hw
      obtain ⟨m, hm⟩ : ∃ m, (wordL (s.drop (e + q))).2 = m := ⟨_, rfl⟩
      obtain ⟨k, hk⟩ : ∃ k, (wordL (s.drop (e + q))).1 = k := ⟨_, rfl⟩
      rw [hm, hk] at h
      rw [hm] at hw
      by_cases h0 : m = 0
      · rw [if_pos h0] at h; cases h
      · rw [if_neg h0] at h
        by_cases h1 : n = 4096
        · rw [if_pos h1] at h; cases h
        · rw [if_neg h1, List.drop_drop] at h
          have hdd : ∀ x, (s.drop (e + q)).drop x = s.drop (e + q + x) := fun x => by rw [List.drop_drop]
          rw [hdd] at h
          obtain ⟨X, hX⟩ : ∃ X, toksL f (n + 1) (e + q + m + skipL (s.drop (e + q + m))) (s.drop (e + q + (m + skipL (s.drop (e + q + m))))) = X := ⟨_, rfl⟩
          rw [hX] at h
          cases X with
          | error x => cases h
          | ok us =>
            cases h
            have hlen : ((s.drop (e + q)).take m).length = m := by rw [List.length_take, List.length_drop]; omega
            have ih := toksL_places s f (n + 1) (e + q + m) us (by rw [List.length_drop]; omega) (by omega) (by rw [← hX]; congr 2; omega)
            unfold PlOk
            refine ⟨by simp only; omega, ?_, ?_, ?_, ?_, ?_⟩
            · simp only
              rw [show e + q - e = q by omega]
              exact htk
            · simp only
              intro h2
              rw [h2] at hlen
              simp at hlen
              omega
            · simp only
              rw [hlen]
              omega
            · simp only
              rw [hlen]
            · simp only
              rw [hlen]
              exact ih
theorem tokensL_places (s : List UInt8) (ts : List Tk) (h : tokensL s = .ok ts) : PlOk s 0 ts := by
  unfold tokensL at h
  split at h
  · cases h
  · have := toksL_places s s.length 0 0 ts (by simp) (Nat.zero_le _) (by simpa using h)
    exact this
theorem toksL_len : ∀ (f n p : Nat) (l : List UInt8) (ts : List Tk), n ≤ 4096 → toksL f n p l = .ok ts → n + ts.length ≤ 4096
  | 0, n, p, l, ts, hn, h => by
    simp only [toksL, Except.ok.injEq] at h
    subst h
    simpa using hn
  | f + 1, n, p, l, ts, hn, h => by
    by_cases hl : l = []
    · rw [toksL, if_pos hl] at h
      cases h
      simpa using hn
    · rw [toksL_step _ _ _ _ hl] at h
      by_cases h0 : (wordL l).2 = 0
      · rw [if_pos h0] at h; cases h
      · rw [if_neg h0] at h
        by_cases h1 : n = 4096
        · rw [if_pos h1] at h; cases h
        · rw [if_neg h1] at h
          obtain ⟨X, hX⟩ : ∃ X, toksL f (n + 1) (p + (wordL l).2 + skipL (l.drop (wordL l).2)) (l.drop ((wordL l).2 + skipL (l.drop (wordL l).2))) = X := ⟨_, rfl⟩
          rw [hX] at h
          cases X with
          | error x => cases h
          | ok us =>
            cases h
            have := toksL_len f (n + 1) _ _ us (by omega) hX
            simp only [List.length_cons]
            omega
theorem tokensL_len (s : List UInt8) (ts : List Tk) (h : tokensL s = .ok ts) : ts.length ≤ 4096 := by
  unfold tokensL at h
  split at h
  · cases h
  · have := toksL_len _ _ _ _ _ (Nat.zero_le _) h
    omega
end Go.Proofs.YtpbkeamjdolpgaaGreatDoor
namespace Go.Proofs.YtpbkeamjdolpgaaGreatDoor
open Go.RowKit Go.Lib

theorem bl_cases {c : UInt8} (h : isBl c = true) : c = 32 ∨ c = 9 ∨ c = 10 ∨ c = 13 := by
  unfold isBl at h
  simpa [or_assoc] using h
theorem bl_small {c : UInt8} (h : isBl c = true) : c.toNat < 128 := by
  rcases bl_cases h with rfl | rfl | rfl | rfl <;> decide
theorem bl_name {c : UInt8} (h : isBl c = true) (j : Nat) : isNm j c.toNat = false := by
  have h1 : ∀ c : UInt8, isBl c = true → (c.toNat == 95) = false ∧ Lib.isLetterU (c.toNat : Int) = false ∧ Lib.isDigitU (c.toNat : Int) = false := by
    intro c hc
    rcases bl_cases hc with rfl | rfl | rfl | rfl <;> exact ⟨by decide, by kernel_rfl, by kernel_rfl⟩
  obtain ⟨a, b, d⟩ := h1 c h
  unfold isNm
  rw [a, b, d]
  simp
theorem bl_db {c : UInt8} (h : isBl c = true) : isDb c = false := by
  rcases bl_cases h with rfl | rfl | rfl | rfl <;> decide

theorem dec_app (l : List UInt8) (c : UInt8) (r : List UInt8) (hl : l ≠ []) (hc : c.toNat < 128) : dec (l ++ c :: r) = dec l := by
  have h2 : ¬ c.toNat / 64 = 2 := by omega
  unfold dec Lib.decodeN bt
  match l, hl with
  | [a], _ => simp [h2]
  | [a, b], _ => simp [h2]
  | [a, b, d], _ => simp [h2]
  | a :: b :: d :: e :: q, _ =>
    have e1 : (a :: b :: d :: e :: q ++ c :: r).length = q.length + 4 + (r.length + 1) := by simp; omega
    have e2 : (a :: b :: d :: e :: q).length = q.length + 4 := by simp
    rw [e1, e2]
    have g1 : 1 < q.length + 4 + (r.length + 1) := by omega
    have g2 : 2 < q.length + 4 + (r.length + 1) := by omega
    have g3 : 3 < q.length + 4 + (r.length + 1) := by omega
    have g4 : 1 < q.length + 4 := by omega
    have g5 : 2 < q.length + 4 := by omega
    have g6 : 3 < q.length + 4 := by omega
    simp [g1, g2, g3, g4, g5, g6]
theorem dec_small (c : UInt8) (r : List UInt8) (hc : c.toNat < 128) : dec (c :: r) = (c.toNat, 1) := by
  rcases dec_shape (c :: r) with ⟨_, h⟩ | ⟨h, _⟩
  · exact h
  · have : bt (c :: r) 0 = c.toNat := rfl
    omega
theorem runL_app (p : Nat → Nat → Bool) (c : UInt8) (r : List UInt8) (hc : c.toNat < 128) (hp : ∀ j, p j c.toNat = false) : ∀ (f i : Nat) (l : List UInt8), l.length < f → runL p f i (l ++ c :: r) = runL p f i l
  | 0, i, l, h => by omega
  | f + 1, i, [], h => by
    rw [List.nil_append, runL_nil, runL, if_neg (by simp)]
    have hb : badL (c :: r) = false := by unfold badL; rw [dec_small c r hc]; simp; omega
    rw [hb, if_neg (by simp), dec_small c r hc]
    simp only
    rw [hp, if_neg (by simp)]
  | f + 1, i, a :: l, h => by
    have hd := dec_app (a :: l) c r (by simp) hc
    have h1 := dec_le (a :: l) (by simp)
    have h2 := dec_ge1 (a :: l)
    have hb : badL (a :: l ++ c :: r) = badL (a :: l) := by unfold badL; rw [hd]
    rw [runL, if_neg (show ¬ (a :: l ++ c :: r) = [] by simp), runL, if_neg (show ¬ (a :: l) = [] by simp), hb, hd]
    have hdr : (a :: l ++ c :: r).drop (dec (a :: l)).2 = (a :: l).drop (dec (a :: l)).2 ++ c :: r := List.drop_append_of_le_length h1
    rw [hdr, runL_app p c r hc hp f _ _ (by rw [List.length_drop]; omega)]
theorem nameL_app (l : List UInt8) (c : UInt8) (r : List UInt8) (hc : isBl c = true) : nameL (l ++ c :: r) = nameL l := by
  unfold nameL
  rw [runL_app isNm c r (bl_small hc) (bl_name hc) _ _ _ (by simp only [List.length_append, List.length_cons]; omega)]
  exact runL_fuel _ _ _ _ _ (by simp only [List.length_append, List.length_cons]; omega) (Nat.le_refl _)
theorem digs_app (c : UInt8) (r : List UInt8) (hc : isBl c = true) : ∀ l : List UInt8, digs (l ++ c :: r) = digs l
  | [] => by unfold digs; simp [bl_db hc]
  | a :: l => by
    have ih := digs_app c r hc l
    unfold digs at ih ⊢
    rw [List.cons_append, List.takeWhile_cons, List.takeWhile_cons]
    cases isDb a
    · rfl
    · simp only [if_true, List.length_cons]
      rw [ih]
theorem numL_app (l : List UInt8) (c : UInt8) (r : List UInt8) (hc : isBl c = true) : numL (l ++ c :: r) = numL l := by
  have h1 := digs_le l
  unfold numL
  rw [digs_app c r hc, List.drop_append_of_le_length h1]
  by_cases h0 : digs l = 0
  · rw [if_pos h0, if_pos h0]
  · rw [if_neg h0, if_neg h0]
    cases hd : l.drop (digs l) with
    | nil =>
      have hn : ¬ (([] : List UInt8) ++ c :: r).head? = some 46 := by
        simp
        rcases bl_cases hc with rfl | rfl | rfl | rfl <;> decide
      rw [if_neg (fun h => hn h.1), if_neg (fun h => by cases h.1)]
    | cons x y =>
      have hlen : digs l + 1 ≤ l.length := by
        have := congrArg List.length hd
        rw [List.length_drop] at this
        simp at this
        omega
      rw [List.drop_append_of_le_length hlen, digs_app c r hc]
      rfl
theorem pre_app (l : List UInt8) (c : UInt8) (r : List UInt8) (hl : l ≠ []) (t : List UInt8) (ht : t.length ≤ 2) (hc : t[1]? ≠ some c) : Lib.hasPrefix (l ++ c :: r) t = Lib.hasPrefix l t := by
  unfold Lib.hasPrefix
  match l, hl, t, ht, hc with
  | a :: l, _, [], _, _ => rfl
  | a :: l, _, [x], _, _ => simp [List.isPrefixOf]
  | [a], _, [x, y], _, hc =>
    have : ¬ y = c := fun h => hc (by simp [h])
    simp [List.isPrefixOf, this]
  | a :: b :: l, _, [x, y], _, _ => simp [List.isPrefixOf]
theorem signs_two (c : UInt8) (h : isBl c = true) : ∀ t ∈ signs, t.length ≤ 2 ∧ t[1]? ≠ some c := by
  rcases bl_cases h with rfl | rfl | rfl | rfl <;> decide
theorem signIn_app (l : List UInt8) (c : UInt8) (r : List UInt8) (hl : l ≠ []) : ∀ ts : List (List UInt8), (∀ t ∈ ts, t.length ≤ 2 ∧ t[1]? ≠ some c) → signIn (l ++ c :: r) ts = signIn l ts
  | [], _ => rfl
  | t :: ts, h => by
    have h1 := h t (List.mem_cons_self ..)
    rw [signIn, signIn, pre_app l c r hl t h1.1 h1.2, signIn_app l c r hl ts (fun u hu => h u (List.mem_cons_of_mem _ hu))]
theorem wordL_app (l : List UInt8) (c : UInt8) (r : List UInt8) (hl : l ≠ []) (hc : isBl c = true) : wordL (l ++ c :: r) = wordL l := by
  unfold wordL signL
  rw [nameL_app l c r hc, numL_app l c r hc, signIn_app l c r hl signs (signs_two c hc)]

/-! ### Two lines -/
theorem skip_app10 (r : List UInt8) : ∀ (b : Bool) (l : List UInt8), skipB b (l ++ 10 :: r) = if skipB b l = l.length then l.length + (1 + skipB false r) else skipB b l
  | b, [] => by cases b <;> simp [skipB, isBl]
  | true, c :: l => by
    have h1 := skip_app10 r true l
    have h2 := skip_app10 r false l
    rw [List.cons_append, skipB, skipB]
    by_cases h : c = 10
    · rw [if_pos h, if_pos h, h2]
      by_cases h3 : skipB false l = l.length
      · rw [if_pos h3, if_pos (by simp only [List.length_cons]; omega)]; simp only [List.length_cons]; omega
      · rw [if_neg h3, if_neg (by simp only [List.length_cons]; omega)]
    · rw [if_neg h, if_neg h, h1]
      by_cases h3 : skipB true l = l.length
      · rw [if_pos h3, if_pos (by simp only [List.length_cons]; omega)]; simp only [List.length_cons]; omega
      · rw [if_neg h3, if_neg (by simp only [List.length_cons]; omega)]
  | false, c :: l => by
    have h1 := skip_app10 r true l
    have h2 := skip_app10 r false l
    have e1 : ∀ q, skipB false (c :: q) = if isBl c then 1 + skipB false q else if c = 47 ∧ q.head? = some 47 then 1 + skipB true q else 0 := fun q => by rw [skipB]
    rw [List.cons_append, e1, e1]
    by_cases hb : isBl c = true
    · rw [if_pos hb, if_pos hb, h2]
      by_cases h3 : skipB false l = l.length
      · rw [if_pos h3, if_pos (by simp only [List.length_cons]; omega)]; simp only [List.length_cons]; omega
      · rw [if_neg h3, if_neg (by simp only [List.length_cons]; omega)]
    · rw [if_neg hb, if_neg hb]
      by_cases h : c = 47 ∧ l.head? = some 47
      · have hh : (l ++ 10 :: r).head? = some 47 := by
          cases l with
          | nil => simp at h
          | cons d l => simpa using h.2
        rw [if_pos h, if_pos ⟨h.1, hh⟩, h1]
        by_cases h3 : skipB true l = l.length
        · rw [if_pos h3, if_pos (by simp only [List.length_cons]; omega)]; simp only [List.length_cons]; omega
        · rw [if_neg h3, if_neg (by simp only [List.length_cons]; omega)]
      · have hh : ¬ (c = 47 ∧ (l ++ 10 :: r).head? = some 47) := by
          rintro ⟨h3, h4⟩
          cases l with
          | nil => simp at h4
          | cons d l => exact h ⟨h3, by simpa using h4⟩
        rw [if_neg h, if_neg hh, if_neg (by simp)]

theorem toksL_fuel : ∀ (f g n p : Nat) (l : List UInt8), l.length ≤ f → l.length ≤ g → toksL f n p l = toksL g n p l
  | 0, g, n, p, l, hf, _ => by
    have : l = [] := List.eq_nil_of_length_eq_zero (by omega)
    subst this
    cases g <;> simp [toksL]
  | f + 1, 0, n, p, l, _, hg => by
    have : l = [] := List.eq_nil_of_length_eq_zero (by omega)
    subst this
    simp [toksL]
  | f + 1, g + 1, n, p, l, hf, hg => by
    by_cases hl : l = []
    · rw [toksL, toksL, if_pos hl, if_pos hl]
    · rw [toksL_step _ _ _ _ hl, toksL_step _ _ _ _ hl]
      by_cases h0 : (wordL l).2 = 0
      · rw [if_pos h0, if_pos h0]
      · rw [if_neg h0, if_neg h0]
        rw [toksL_fuel f g _ _ (l.drop _) (by rw [List.length_drop]; omega) (by rw [List.length_drop]; omega)]
def shift (d : Nat) (t : Tk) : Tk := (t.1, t.2.1, t.2.2 + d)
theorem toksL_shift (d : Nat) : ∀ (f n m p : Nat) (l : List UInt8) (ts : List Tk), toksL f n p l = .ok ts → m + ts.length ≤ 4096 → toksL f m (p + d) l = .ok (ts.map (shift d))
  | 0, n, m, p, l, ts, h, _ => by
    simp only [toksL, Except.ok.injEq] at h ⊢
    subst h
    rfl
  | f + 1, n, m, p, l, ts, h, hm => by
    by_cases hl : l = []
    · rw [toksL, if_pos hl] at h ⊢
      cases h
      rfl
    · rw [toksL_step _ _ _ _ hl] at h ⊢
      by_cases h0 : (wordL l).2 = 0
      · rw [if_pos h0] at h; cases h
      · rw [if_neg h0] at h ⊢
        by_cases h1 : n = 4096
        · rw [if_pos h1] at h; cases h
        · rw [if_neg h1] at h
          obtain ⟨X, hX⟩ : ∃ X, toksL f (n + 1) (p + (wordL l).2 + skipL (l.drop (wordL l).2)) (l.drop ((wordL l).2 + skipL (l.drop (wordL l).2))) = X := ⟨_, rfl⟩
          rw [hX] at h
          cases X with
          | error x => cases h
          | ok us =>
            cases h
            simp only [List.length_cons] at hm
            have ih := toksL_shift d f (n + 1) (m + 1) _ _ us hX (by omega)
            rw [if_neg (by omega), show p + d + (wordL l).2 + skipL (l.drop (wordL l).2) = p + (wordL l).2 + skipL (l.drop (wordL l).2) + d by omega, ih]
            rfl
/-- Blanks, then tokens. -/
def scanL (f n p : Nat) (l : List UInt8) : Except Flt (List Tk) := toksL f n (p + skipL l) (l.drop (skipL l))
theorem scan_app (r : List UInt8) (bs : List Tk) (g : Nat) (hb : ∀ F m p, r.length ≤ F → m + bs.length ≤ 4096 → scanL F m p r = .ok (bs.map (shift p))) :
    ∀ (f n p : Nat) (l : List UInt8) (ts : List Tk), scanL f n p l = .ok ts → l.length ≤ f → n + ts.length + bs.length ≤ 4096 → ∀ F, l.length + 1 + r.length ≤ F → scanL F n p (l ++ 10 :: r) = .ok (ts ++ bs.map (shift (p + l.length + 1)))
  | f, n, p, l, ts, h, hf, hn, F, hF => by
    have hsk : skipL l ≤ l.length := skipB_le _ _
    have hap : skipL (l ++ 10 :: r) = if skipL l = l.length then l.length + (1 + skipL r) else skipL l := skip_app10 r false l
    unfold scanL at h ⊢
    by_cases hq : skipL l = l.length
    · rw [if_pos hq] at hap
      rw [hq, List.drop_eq_nil_of_le (Nat.le_refl _)] at h
      have hts : ts = [] := by
        cases f <;> simp [toksL] at h <;> exact h
      subst hts
      rw [hap, List.drop_append, List.drop_eq_nil_of_le (by omega), show l.length + (1 + skipL r) - l.length = skipL r + 1 by omega, List.drop_succ_cons, List.nil_append, List.nil_append]
      have := hb F n (p + l.length + 1) (by omega) (by simpa using hn)
      unfold scanL at this
      rw [← this]
      congr 1
      omega
    · rw [if_neg hq] at hap
      rw [hap, List.drop_append_of_le_length hsk]
      obtain ⟨m, hm⟩ : ∃ m, l.drop (skipL l) = m := ⟨_, rfl⟩
      have hml : m.length = l.length - skipL l := by rw [← hm, List.length_drop]
      have hmne : m ≠ [] := by intro h0; rw [h0] at hml; simp at hml; omega
      rw [hm] at h ⊢
      cases f with
      | zero => omega
      | succ f =>
        cases F with
        | zero => omega
        | succ F =>
          rw [toksL_step _ _ _ _ hmne] at h
          rw [toksL_step _ _ _ _ (by simp), wordL_app m 10 r hmne rfl]
          have hw := wordL_le m
          by_cases h0 : (wordL m).2 = 0
          · rw [if_pos h0] at h; cases h
          · rw [if_neg h0] at h ⊢
            by_cases h1 : n = 4096
            · rw [if_pos h1] at h; cases h
            · rw [if_neg h1] at h ⊢
              obtain ⟨X, hX⟩ : ∃ X, toksL f (n + 1) (p + skipL l + (wordL m).2 + skipL (m.drop (wordL m).2)) (m.drop ((wordL m).2 + skipL (m.drop (wordL m).2))) = X := ⟨_, rfl⟩
              rw [hX] at h
              cases X with
              | error x => cases h
              | ok us =>
                cases h
                simp only [List.length_cons] at hn
                have ih := scan_app r bs g hb f (n + 1) (p + skipL l + (wordL m).2) (m.drop (wordL m).2) us (by unfold scanL; rw [List.drop_drop]; exact hX) (by rw [List.length_drop]; omega) (by omega) F (by rw [List.length_drop]; omega)
                unfold scanL at ih
                rw [List.drop_append_of_le_length hw, ← List.drop_drop, List.drop_append_of_le_length hw, ih, List.take_append_of_le_length hw]
                have e : p + skipL l + (wordL m).2 + (m.drop (wordL m).2).length + 1 = p + l.length + 1 := by rw [List.length_drop]; omega
                rw [e]
                rfl
theorem tokens_lines (s t : List UInt8) (a b : List Tk) (ha : tokensL s = .ok a) (hb : tokensL t = .ok b) (hl : s.length + t.length < 65536) (hn : a.length + b.length ≤ 4096) :
    tokensL (s ++ 10 :: t) = .ok (a ++ b.map (shift (s.length + 1))) := by
  unfold tokensL at ha hb ⊢
  rw [if_neg (by omega)] at ha hb
  rw [if_neg (by simp; omega)]
  have hb2 : ∀ F m p, t.length ≤ F → m + b.length ≤ 4096 → scanL F m p t = .ok (b.map (shift p)) := by
    intro F m p hF hm
    unfold scanL
    have h1 := toksL_shift p t.length 0 m (skipL t) (t.drop (skipL t)) b hb hm
    rw [toksL_fuel F t.length _ _ _ (by rw [List.length_drop]; omega) (by rw [List.length_drop]; omega), Nat.add_comm p, h1]
  have h := scan_app t b 0 hb2 s.length 0 0 s a (by unfold scanL; rw [Nat.zero_add]; exact ha) (Nat.le_refl _) (by omega) (s ++ 10 :: t).length (by simp; omega)
  unfold scanL at h
  rw [Nat.zero_add, Nat.zero_add] at h
  exact h
theorem PlOk_at (s : List UInt8) : ∀ (ts : List Tk) (e i : Nat) (u : Tk), PlOk s e ts → ts[i]? = some u → u.2.2 + u.2.1.length ≤ s.length
  | [], e, i, u, _, h => by simp at h
  | t :: ts, e, 0, u, hp, h => by
    simp at h
    subst h
    exact hp.2.2.2.1
  | t :: ts, e, i + 1, u, hp, h => PlOk_at s ts _ i u hp.2.2.2.2.2 (by simpa using h)
theorem tokensL_at (s : List UInt8) (ts : List Tk) (h : tokensL s = .ok ts) (i : Nat) (u : Tk) (hu : ts[i]? = some u) : u.2.2 + u.2.1.length ≤ s.length :=
  PlOk_at s ts 0 i u (tokensL_places s ts h) hu
end Go.Proofs.YtpbkeamjdolpgaaGreatDoor
namespace Go.Proofs.YtpbkeamjdolpgaaGreatDoor
open Go.RowKit Go.Lib

/-! ### A token cut out of a text is that token -/
theorem decN_cut (n m b0 b1 b2 b3 : Nat) (c1 c2 c3 : Nat) (h : (decodeN n b0 b1 b2 b3).2 ≤ m) (hb : decodeN n b0 b1 b2 b3 ≠ (65533, 1)) (hn : m ≤ n)
    (e1 : 1 < m → c1 = b1) (e2 : 2 < m → c2 = b2) (e3 : 3 < m → c3 = b3) : decodeN m b0 c1 c2 c3 = decodeN n b0 b1 b2 b3 := by
  unfold decodeN at h hb ⊢
  by_cases k0 : b0 < 128
  · rw [if_pos k0, if_pos k0]
  · rw [if_neg k0] at h hb ⊢
    rw [if_neg k0]
    by_cases k1 : b0 / 32 = 6 ∧ (1 < n ∧ b1 / 64 = 2)
    · rw [if_pos k1] at h hb ⊢
      by_cases v : b0 % 32 * 64 + b1 % 64 ≥ 128
      · rw [if_pos v] at h ⊢
        have h2 : 2 ≤ m := h
        have E1 := e1 (by omega)
        subst E1
        rw [if_pos ⟨k1.1, by omega, k1.2.2⟩, if_pos v]
      · rw [if_neg v] at hb
        exact absurd rfl hb
    · rw [if_neg k1] at h hb ⊢
      rw [if_neg (fun q => k1 ⟨q.1, by omega, by rw [← e1 q.2.1]; exact q.2.2⟩)]
      by_cases k2 : b0 / 16 = 14 ∧ (1 < n ∧ b1 / 64 = 2) ∧ (2 < n ∧ b2 / 64 = 2)
      · rw [if_pos k2] at h hb ⊢
        by_cases v : b0 % 16 * 4096 + b1 % 64 * 64 + b2 % 64 ≥ 2048 ∧ (b0 % 16 * 4096 + b1 % 64 * 64 + b2 % 64 < 55296 ∨ (57344 ≤ b0 % 16 * 4096 + b1 % 64 * 64 + b2 % 64 ∧ b0 % 16 * 4096 + b1 % 64 * 64 + b2 % 64 ≤ 1114111))
        · rw [if_pos v] at h ⊢
          have h3 : 3 ≤ m := h
          have E1 := e1 (by omega)
          have E2 := e2 (by omega)
          subst E1 E2
          rw [if_pos ⟨k2.1, ⟨by omega, k2.2.1.2⟩, by omega, k2.2.2.2⟩, if_pos v]
        · rw [if_neg v] at hb
          exact absurd rfl hb
      · rw [if_neg k2] at h hb ⊢
        rw [if_neg (fun q => k2 ⟨q.1, ⟨by omega, by rw [← e1 q.2.1.1]; exact q.2.1.2⟩, by omega, by rw [← e2 q.2.2.1]; exact q.2.2.2⟩)]
        by_cases k3 : b0 / 8 = 30 ∧ (1 < n ∧ b1 / 64 = 2) ∧ (2 < n ∧ b2 / 64 = 2) ∧ (3 < n ∧ b3 / 64 = 2)
        · rw [if_pos k3] at h hb ⊢
          by_cases v : b0 % 8 * 262144 + b1 % 64 * 4096 + b2 % 64 * 64 + b3 % 64 ≥ 65536 ∧ (b0 % 8 * 262144 + b1 % 64 * 4096 + b2 % 64 * 64 + b3 % 64 < 55296 ∨ (57344 ≤ b0 % 8 * 262144 + b1 % 64 * 4096 + b2 % 64 * 64 + b3 % 64 ∧ b0 % 8 * 262144 + b1 % 64 * 4096 + b2 % 64 * 64 + b3 % 64 ≤ 1114111))
          · rw [if_pos v] at h ⊢
            have h4 : 4 ≤ m := h
            have E1 := e1 (by omega)
            have E2 := e2 (by omega)
            have E3 := e3 (by omega)
            subst E1 E2 E3
            rw [if_pos ⟨k3.1, ⟨by omega, k3.2.1.2⟩, ⟨by omega, k3.2.2.1.2⟩, by omega, k3.2.2.2.2⟩, if_pos v]
          · rw [if_neg v] at hb
            exact absurd rfl hb
        · rw [if_neg k3] at hb
          exact absurd rfl hb
theorem bt_take (l : List UInt8) (m k : Nat) (h : k < m) : bt (l.take m) k = bt l k := by
  unfold bt
  rw [List.getElem?_take, if_pos h]
theorem dec_take (l : List UInt8) (m : Nat) (hb : badL l = false) (h : (dec l).2 ≤ m) : dec (l.take m) = dec l := by
  by_cases hm : l.length ≤ m
  · rw [List.take_of_length_le hm]
  · have h1 := dec_ge1 l
    have hne : dec l ≠ (65533, 1) := by
      intro h2
      unfold badL at hb
      rw [h2] at hb
      simp at hb
    have hlen : (l.take m).length = m := by rw [List.length_take]; omega
    unfold dec at h hne ⊢
    rw [hlen, bt_take l m 0 (by unfold dec at h1; omega)]
    exact decN_cut l.length m _ _ _ _ _ _ _ h hne (by omega) (fun q => bt_take l m 1 q) (fun q => bt_take l m 2 q) (fun q => bt_take l m 3 q)
theorem bad_take (l : List UInt8) (m : Nat) (hb : badL l = false) (h : (dec l).2 ≤ m) : badL (l.take m) = false := by
  unfold badL at hb ⊢
  rw [dec_take l m (by unfold badL; exact hb) h]
  exact hb
/-- The run cut out is a run, to its end. -/
theorem runL_take (p : Nat → Nat → Bool) : ∀ (f g i : Nat) (l : List UInt8), l.length ≤ f → runL p f i l ≤ g → runL p g i (l.take (runL p f i l)) = runL p f i l
  | 0, g, i, l, hf, _ => by
    have : l = [] := List.eq_nil_of_length_eq_zero (by omega)
    subst this
    rw [runL_nil, List.take_nil, runL_nil]
  | f + 1, g, i, l, hf, hg => by
    by_cases hl : l = []
    · subst hl
      rw [runL_nil, List.take_nil, runL_nil]
    · have e : runL p (f + 1) i l = if badL l then 0 else if p i (dec l).1 then (dec l).2 + runL p f (i + (dec l).2) (l.drop (dec l).2) else 0 := by
        rw [runL, if_neg hl]
      by_cases hb : badL l = true
      · rw [if_pos hb] at e
        rw [e, List.take_zero, runL_nil]
      · rw [if_neg hb] at e
        by_cases hp : p i (dec l).1 = true
        · rw [if_pos hp] at e
          have h1 := dec_ge1 l
          have h2 := dec_le l hl
          obtain ⟨K, hK⟩ : ∃ K, runL p f (i + (dec l).2) (l.drop (dec l).2) = K := ⟨_, rfl⟩
          have ih := fun g hg => runL_take p f g (i + (dec l).2) (l.drop (dec l).2) (by rw [List.length_drop]; omega) hg
          rw [hK] at e ih
          rw [e] at hg ⊢
          obtain ⟨g', rfl⟩ : ∃ g', g = g' + 1 := ⟨g - 1, by omega⟩
          have hb2 : badL l = false := by simpa using hb
          have ht : l.take ((dec l).2 + K) ≠ [] := by
            intro h
            have h3 := congrArg List.length h
            rw [List.length_take] at h3
            simp only [List.length_nil] at h3
            have : 0 < l.length := List.length_pos_iff.2 hl
            omega
          rw [runL, if_neg ht, bad_take l _ hb2 (by omega), dec_take l _ hb2 (by omega), if_neg (by simp), if_pos hp]
          have hd : (l.take ((dec l).2 + K)).drop (dec l).2 = (l.drop (dec l).2).take K := by
            rw [List.drop_take]
            congr 1
            omega
          rw [hd, ih g' (by omega)]
        · rw [if_neg hp] at e
          rw [e, List.take_zero, runL_nil]
theorem nameL_take (l : List UInt8) : nameL (l.take (nameL l)) = nameL l := by
  unfold nameL
  have hle := runL_le isNm l.length 0 l
  have h := runL_take isNm l.length (l.take (runL isNm l.length 0 l)).length 0 l (Nat.le_refl _) (by rw [List.length_take]; omega)
  exact h
theorem nameL_first (l : List UInt8) (h : bt l 0 < 128) (hl : l ≠ []) : (nameL l = 0) ↔ isNm 0 (bt l 0) = false := by
  have hd : dec l = (bt l 0, 1) := by
    rcases dec_shape l with ⟨_, e⟩ | ⟨k, _⟩
    · exact e
    · omega
  have hb : badL l = false := by
    unfold badL
    rw [hd]
    have : (bt l 0 == 65533) = false := beq_eq_false_iff_ne.2 (by omega)
    simp [this]
  obtain ⟨n, hn⟩ : ∃ n, l.length = n + 1 := ⟨l.length - 1, by have := List.length_pos_iff.2 hl; omega⟩
  unfold nameL
  rw [hn, runL, if_neg hl, hb, hd, if_neg (by simp)]
  dsimp only
  cases isNm 0 (bt l 0)
  · simp
  · simp
theorem nameL_zero_take (l : List UInt8) (m : Nat) (h : bt l 0 < 128) (hz : nameL l = 0) : nameL (l.take m) = 0 := by
  by_cases hl : l.take m = []
  · rw [hl]
    exact runL_nil _ _ _
  · have hm : 0 < m := by
      rcases Nat.eq_zero_or_pos m with h0 | h0
      · subst h0; exact absurd (List.take_zero) hl
      · exact h0
    have hl2 : l ≠ [] := fun h2 => hl (by rw [h2, List.take_nil])
    have h0 := bt_take l m 0 hm
    rw [nameL_first _ (by rw [h0]; exact h) hl, h0]
    exact (nameL_first l h hl2).1 hz
theorem digs_take : ∀ (l : List UInt8) (m : Nat), digs (l.take m) = min m (digs l)
  | [], m => by simp [digs]
  | c :: r, 0 => by simp [digs]
  | c :: r, m + 1 => by
    have ih := digs_take r m
    unfold digs at ih ⊢
    rw [List.take_succ_cons, List.takeWhile_cons, List.takeWhile_cons]
    cases isDb c
    · simp
    · simp only [if_true, List.length_cons, ih]
      omega
theorem numL_take (l : List UInt8) : numL (l.take (numL l)) = numL l := by
  by_cases h0 : digs l = 0
  · have e : numL l = 0 := by unfold numL; rw [if_pos h0]
    rw [e, List.take_zero]
    rfl
  · by_cases h1 : (l.drop (digs l)).head? = some 46 ∧ 0 < digs (l.drop (digs l + 1))
    · have e : numL l = digs l + (1 + digs (l.drop (digs l + 1))) := by unfold numL; rw [if_neg h0, if_pos h1]
      rw [e]
      obtain ⟨d, hd⟩ : ∃ d, digs l = d := ⟨_, rfl⟩
      rw [hd] at h1 h0 ⊢
      obtain ⟨k, hk⟩ : ∃ k, digs (l.drop (d + 1)) = k := ⟨_, rfl⟩
      rw [hk] at h1 ⊢
      have e1 : digs (l.take (d + (1 + k))) = d := by rw [digs_take, hd]; omega
      have e2 : (l.take (d + (1 + k))).drop (d + 1) = (l.drop (d + 1)).take k := by
        rw [List.drop_take]
        congr 1
        omega
      have e3 : digs ((l.take (d + (1 + k))).drop (d + 1)) = k := by rw [e2, digs_take, hk]; omega
      have e4 : ((l.take (d + (1 + k))).drop d).head? = some 46 := by
        rw [List.drop_take, show d + (1 + k) - d = k + 1 by omega]
        have h2 := h1.1
        cases hx : l.drop d with
        | nil => rw [hx] at h2; simp at h2
        | cons a b => rw [hx] at h2; simpa using h2
      unfold numL
      rw [e1, if_neg h0, e3, if_pos ⟨e4, h1.2⟩]
    · have e : numL l = digs l := by unfold numL; rw [if_neg h0, if_neg h1]
      rw [e]
      have e1 : digs (l.take (digs l)) = digs l := by rw [digs_take]; omega
      unfold numL
      rw [e1, if_neg h0, if_neg]
      rintro ⟨h2, _⟩
      rw [List.drop_take, Nat.sub_self, List.take_zero] at h2
      simp at h2
theorem signIn_some (l : List UInt8) : ∀ ts : List (List UInt8), 0 < signIn l ts → ∃ t ∈ ts, Lib.hasPrefix l t = true ∧ signIn l ts = t.length
  | [], h => by simp [signIn] at h
  | t :: r, h => by
    unfold signIn at h ⊢
    by_cases hp : Lib.hasPrefix l t = true
    · rw [if_pos hp] at h ⊢
      exact ⟨t, List.mem_cons_self, hp, rfl⟩
    · rw [if_neg hp] at h ⊢
      obtain ⟨u, h1, h2, h3⟩ := signIn_some l r h
      exact ⟨u, List.mem_cons_of_mem _ h1, h2, h3⟩
theorem signs_self : ∀ t ∈ signs, signL t = t.length ∧ bt t 0 < 128 ∧ t ≠ [] := by decide
theorem take_prefix (l t : List UInt8) (h : Lib.hasPrefix l t = true) : l.take t.length = t :=
  (List.prefix_iff_eq_take.1 (List.isPrefixOf_iff_prefix.1 h)).symm
theorem signL_take (l : List UInt8) (h : 0 < signL l) : signL (l.take (signL l)) = signL l ∧ bt l 0 < 128 := by
  obtain ⟨t, h1, h2, h3⟩ := signIn_some l signs h
  have hs := signs_self t h1
  have e : l.take (signL l) = t := by
    have : signL l = t.length := h3
    rw [this]
    exact take_prefix l t h2
  refine ⟨?_, ?_⟩
  · rw [e, hs.1]
    exact h3.symm
  · rw [← bt_take l (signL l) 0 h, e]
    exact hs.2.1
theorem digs_first (l : List UInt8) (h : 0 < digs l) : bt l 0 < 128 := by
  unfold digs at h
  cases l with
  | nil => simp at h
  | cons c r =>
    rw [List.takeWhile_cons] at h
    cases hc : isDb c
    · rw [hc] at h; simp at h
    · unfold isDb at hc
      simp only [Bool.and_eq_true, decide_eq_true_eq] at hc
      simp [bt]
      omega
theorem numL_pos (l : List UInt8) (h : 0 < numL l) : 0 < digs l := by
  unfold numL at h
  by_cases h0 : digs l = 0
  · rw [if_pos h0] at h; omega
  · omega
/-- A token cut out of a text is that token. -/
theorem wordL_take (l : List UInt8) (h : 0 < (wordL l).2) : wordL (l.take (wordL l).2) = wordL l := by
  by_cases h1 : 0 < nameL l
  · have e : wordL l = (0, nameL l) := by unfold wordL; rw [if_pos h1]
    rw [e]
    unfold wordL
    rw [nameL_take, if_pos h1]
  · by_cases h2 : 0 < numL l
    · have e : wordL l = (1, numL l) := by unfold wordL; rw [if_neg h1, if_pos h2]
      rw [e]
      unfold wordL
      rw [nameL_zero_take l _ (digs_first l (numL_pos l h2)) (by omega), if_neg (by omega), numL_take, if_pos h2]
    · by_cases h3 : 0 < signL l
      · have e : wordL l = (2, signL l) := by unfold wordL; rw [if_neg h1, if_neg h2, if_pos h3]
        have hs := signL_take l h3
        rw [e]
        unfold wordL
        have hd : digs l = 0 := by
          rcases Nat.eq_zero_or_pos (digs l) with h4 | h4
          · exact h4
          · exfalso
            apply h2
            unfold numL
            rw [if_neg (by omega)]
            split <;> omega
        have hn : numL (l.take (signL l)) = 0 := by
          unfold numL
          rw [if_pos (by rw [digs_take, hd]; omega)]
        rw [nameL_zero_take l _ hs.2 (by omega), if_neg (by omega), hn, if_neg (by omega), hs.1, if_pos h3]
      · have e : wordL l = (0, 0) := by unfold wordL; rw [if_neg h1, if_neg h2, if_neg h3]
        rw [e] at h
        exact absurd h (by decide)
theorem skip_cons (c : UInt8) (r : List UInt8) : skipB false (c :: r) = if isBl c then 1 + skipB false r else if c = 47 ∧ r.head? = some 47 then 1 + skipB true r else 0 := by rw [skipB]
theorem skip_zero (c : UInt8) (r : List UInt8) : skipB false (c :: r) = 0 ↔ isBl c = false ∧ ¬ (c = 47 ∧ r.head? = some 47) := by
  rw [skip_cons]
  cases hb : isBl c
  · by_cases h : c = 47 ∧ r.head? = some 47
    · rw [if_neg (by simp), if_pos h]
      constructor
      · intro h2; omega
      · intro h2; exact absurd h h2.2
    · rw [if_neg (by simp), if_neg h]
      simp [h]
  · rw [if_pos rfl]
    constructor
    · intro h2; omega
    · intro h2; simp at h2
theorem skipL_take0 (l : List UInt8) (m : Nat) (h : skipL l = 0) : skipL (l.take m) = 0 := by
  unfold skipL at h ⊢
  match l, m with
  | [], m => rw [List.take_nil]; rfl
  | c :: r, 0 => rw [List.take_zero]; rfl
  | c :: r, m + 1 =>
    rw [List.take_succ_cons, skip_zero]
    rw [skip_zero] at h
    refine ⟨h.1, fun h2 => h.2 ⟨h2.1, ?_⟩⟩
    have h3 := h2.2
    cases r with
    | nil => simp at h3
    | cons a b =>
      cases m with
      | zero => simp at h3
      | succ m => simpa using h3
theorem skip_app0 (c : UInt8) (r l : List UInt8) (hc : c ≠ 47) (hl : l ≠ []) (h : skipL l = 0) : skipL (l ++ c :: r) = 0 := by
  unfold skipL at h ⊢
  match l, hl with
  | a :: b, _ =>
    rw [List.cons_append, skip_zero]
    rw [skip_zero] at h
    refine ⟨h.1, fun h2 => h.2 ⟨h2.1, ?_⟩⟩
    have h3 := h2.2
    cases b with
    | nil => simp at h3; exact absurd h3 hc
    | cons x y => simpa using h3
theorem skip_idem : ∀ (b : Bool) (l : List UInt8), skipB false (l.drop (skipB b l)) = 0
  | b, [] => by cases b <;> simp [skipB]
  | true, c :: r => by
    have h1 := skip_idem true r
    have h2 := skip_idem false r
    have e : skipB true (c :: r) = if c = 10 then 1 + skipB false r else 1 + skipB true r := by rw [skipB]
    rw [e]
    by_cases h : c = 10
    · rw [if_pos h, Nat.add_comm 1, List.drop_succ_cons]; exact h2
    · rw [if_neg h, Nat.add_comm 1, List.drop_succ_cons]; exact h1
  | false, c :: r => by
    have h1 := skip_idem true r
    have h2 := skip_idem false r
    rw [skip_cons]
    by_cases hb : isBl c = true
    · rw [if_pos hb, Nat.add_comm 1, List.drop_succ_cons]; exact h2
    · rw [if_neg hb]
      by_cases h : c = 47 ∧ r.head? = some 47
      · rw [if_pos h, Nat.add_comm 1, List.drop_succ_cons]; exact h1
      · rw [if_neg h, List.drop_zero, skip_zero]
        exact ⟨by simpa using hb, h⟩
/-- Each token of a text is a token by itself. -/
theorem toksL_ok : ∀ (f n p : Nat) (l : List UInt8) (ts : List Tk), skipL l = 0 → toksL f n p l = .ok ts → ∀ t ∈ ts, wordL t.2.1 = (t.1, t.2.1.length) ∧ 0 < t.2.1.length ∧ skipL t.2.1 = 0
  | 0, n, p, l, ts, _, h, t, ht => by
    rw [toksL] at h
    cases h
    simp at ht
  | f + 1, n, p, l, ts, hs, h, t, ht => by
    by_cases hl : l = []
    · rw [toksL, if_pos hl] at h
      cases h
      simp at ht
    · rw [toksL_step _ _ _ _ hl] at h
      by_cases h0 : (wordL l).2 = 0
      · rw [if_pos h0] at h; cases h
      · rw [if_neg h0] at h
        by_cases h1 : n = 4096
        · rw [if_pos h1] at h; cases h
        · rw [if_neg h1] at h
          have hsk : skipL (l.drop ((wordL l).2 + skipL (l.drop (wordL l).2))) = 0 := by
            rw [← List.drop_drop]
            exact skip_idem false _
          have ih := toksL_ok f (n + 1) (p + (wordL l).2 + skipL (l.drop (wordL l).2)) (l.drop ((wordL l).2 + skipL (l.drop (wordL l).2)))
          cases hr : toksL f (n + 1) (p + (wordL l).2 + skipL (l.drop (wordL l).2)) (l.drop ((wordL l).2 + skipL (l.drop (wordL l).2))) with
          | error e => rw [hr] at h; cases h
          | ok us =>
            rw [hr] at h
            cases h
            rcases List.mem_cons.1 ht with rfl | ht2
            · have hw := wordL_le l
              have hlen : (l.take (wordL l).2).length = (wordL l).2 := by rw [List.length_take]; omega
              refine ⟨?_, by rw [hlen]; omega, skipL_take0 l _ hs⟩
              rw [wordL_take l (by omega), hlen]
            · exact ih us hsk hr t ht2
end Go.Proofs.YtpbkeamjdolpgaaGreatDoor
