/- The walks of the reference's expression: signs, calls. The walks of the reference's parameters, statements, body. The walks of the reference's statement: a name is set, modules, functions. The walks of the statements' twin and same, of the reference's deep. The walks of the reference's statement: loops, conditions, calls. The walks of the statements' twin and same, and of the reference's deep. The reference's statement, whole; its Check. The reference's walk of a tree (scope): a whole text; what Check, Answer and All tell. What the Scope rows' statements ask: Is. The reference's parser: its state; what it asks. The reference's rows, plainly: what is left to tell at the head of its loop. The reference's parser: does a sign of a level stand here? The reference's parser: what an own write leaves; what its methods promise. The walk of the reference's list. The reference's parser: its small methods, with what else is known behind them; arguments, parameters. -/
import Derived.Test.YtpbkeamjdolpgaaGreatDoorZa05
import Derived.Test.YtpbkeamjdolpgaaGreatDoorZa02
import Derived.StillTailTactics
import Derived.Test.YtpbkeamjdolpgaaGreatDoorZa01
import Derived.Laws.EntriesVeiled
import Derived.BigQuiet
import Derived.Deep.QuietTactic
import Derived.Lib.QuietBelow
import Derived.Test.YtpbkeamjdolpgaaGreatDoorZa04
namespace Go.Proofs.YtpbkeamjdolpgaaGreatDoor
open Go.RowKit Go.Lib Go.Shelf Go.Sort

section
variable (ok : Nat → Prop) (w0 : World) (n : List UInt8) (kids : List Nd) (p : Int) (hw : wtL kids + n.length < 2 ^ 40) (hG : Gl w0) (h : ∀ x ∈ kids, OneQ 154 [] ok exR w0 x ∧ OneQ 157 [] ok argR w0 x)
set_option maxHeartbeats 4000000 in
set_option maxRecDepth 100000 in
include hw h in
theorem rex12a1 (hl : kids.length = 1) (HN : n = [45]) (hbt : exsR kids = true) : OneQ 154 [] ok exR w0 (.mk 12 n kids p) := by
  intro v w1 hb hv
  obtain ⟨y, c, rfl, hrow⟩ := hv
  generalize c.val = c
  have hlen := len_wtL kids
  have hE : exR (.mk 12 n kids p) = ((decide (n = [45]) || decide (n = [33])) && exsR kids) := by
    rw [exR_eq, if_neg (by decide), if_neg (by decide), if_neg (by decide), if_pos rfl, if_pos hl]
  obtain ⟨R, hR⟩ : ∃ R, exR (.mk 12 n kids p) = R := ⟨_, rfl⟩
  rw [hR] at hE ⊢
  have HR := Lib.hid hE
  show Calls _ _ _ _ (Yes _ w1)
  simp only [List.append_toArray, List.cons_append, List.nil_append]
  have hA : Below w1.heap.size w1 (w1.alloc (ndO 12 n y kids.length c p)) := (Below.refl _ _).alloc (Nat.le_refl _) _
  have B0 := Lib.hid (NdBox.new w1 12 n y kids.length c p)
  have HA := Lib.hid hA
  have C1 : Hid (∀ W, Below (w1.alloc (ndO 12 n y kids.length c p)).heap.size (w1.alloc (ndO 12 n y kids.length c p)) W → Calls Tryz.prog 193 #[.slice y kids.length c] W (Yes (exsR kids) W)) := fun W hW =>
    rall_any ok kids kids.length rfl (by omega) y c W ((hrow.below hA).below hW) (fun x hx => (((h x hx).1.below hb).below hA).below hW)

  obtain ⟨m, hm⟩ : ∃ m, kids.length = m := ⟨_, rfl⟩
  try rw [hm] at hlen
  rw [hm] at hl
  try rw [hm] at HR
  try rw [hm] at hE
  rw [hm] at B0 HA C1 ⊢
  have HM : Hid (m < 2 ^ 40) := by
    show m < 2 ^ 40
    omega
  unfold ndO at B0 HA C1 
  obtain ⟨B, hB⟩ : ∃ B, exsR kids = B := ⟨_, rfl⟩
  rw [hB] at C1 HR
  obtain rfl : B = true := hB.symm.trans hbt
  clear hbt
  subst HN
  have Q : ((m : Int) == 1) = true := by simp; omega
  have HR2 : Hid (R = true) := by
    show R = true
    rw [HR.out]
    simp
  clear hrow hb hA hw hE hm hlen hR hB h HR hl
  go_enter Tryz.func154, Tryz.ntmps154
  go_wp2_with fail
  generalize w1.alloc (.cells #[.int .i64 12, .string ⟨#[45]⟩, .slice y m c, .int .i64 p] 53) = wA at *

  refine (C1.out _ (Below.refl _ _)).mono ?_
  rintro e w2 ⟨rfl, hb2⟩
  obtain ⟨x0, x1, x2, x3⟩ := B0.out.below hb2
  have HB2 := Lib.hid hb2
  clear C1 hb2
  go_wp2_with fail
  go_ret
  exact ⟨by rw [HR2.out]; rfl, tr HA.out HB2.out⟩

set_option maxHeartbeats 4000000 in
set_option maxRecDepth 100000 in
include hw h in
theorem rex12a2 (hl : kids.length = 1) (HN : n = [33]) (hbt : exsR kids = true) : OneQ 154 [] ok exR w0 (.mk 12 n kids p) := by
  intro v w1 hb hv
  obtain ⟨y, c, rfl, hrow⟩ := hv
  generalize c.val = c
  have hlen := len_wtL kids
  have hE : exR (.mk 12 n kids p) = ((decide (n = [45]) || decide (n = [33])) && exsR kids) := by
    rw [exR_eq, if_neg (by decide), if_neg (by decide), if_neg (by decide), if_pos rfl, if_pos hl]
  obtain ⟨R, hR⟩ : ∃ R, exR (.mk 12 n kids p) = R := ⟨_, rfl⟩
  rw [hR] at hE ⊢
  have HR := Lib.hid hE
  show Calls _ _ _ _ (Yes _ w1)
  simp only [List.append_toArray, List.cons_append, List.nil_append]
  have hA : Below w1.heap.size w1 (w1.alloc (ndO 12 n y kids.length c p)) := (Below.refl _ _).alloc (Nat.le_refl _) _
  have B0 := Lib.hid (NdBox.new w1 12 n y kids.length c p)
  have HA := Lib.hid hA
  have C1 : Hid (∀ W, Below (w1.alloc (ndO 12 n y kids.length c p)).heap.size (w1.alloc (ndO 12 n y kids.length c p)) W → Calls Tryz.prog 193 #[.slice y kids.length c] W (Yes (exsR kids) W)) := fun W hW =>
    rall_any ok kids kids.length rfl (by omega) y c W ((hrow.below hA).below hW) (fun x hx => (((h x hx).1.below hb).below hA).below hW)

  obtain ⟨m, hm⟩ : ∃ m, kids.length = m := ⟨_, rfl⟩
  try rw [hm] at hlen
  rw [hm] at hl
  try rw [hm] at HR
  try rw [hm] at hE
  rw [hm] at B0 HA C1 ⊢
  have HM : Hid (m < 2 ^ 40) := by
    show m < 2 ^ 40
    omega
  unfold ndO at B0 HA C1 
  obtain ⟨B, hB⟩ : ∃ B, exsR kids = B := ⟨_, rfl⟩
  rw [hB] at C1 HR
  obtain rfl : B = true := hB.symm.trans hbt
  clear hbt
  subst HN
  have Q : ((m : Int) == 1) = true := by simp; omega
  have HR2 : Hid (R = true) := by
    show R = true
    rw [HR.out]
    simp
  clear hrow hb hA hw hE hm hlen hR hB h HR hl
  go_enter Tryz.func154, Tryz.ntmps154
  go_wp2_with fail
  generalize w1.alloc (.cells #[.int .i64 12, .string ⟨#[33]⟩, .slice y m c, .int .i64 p] 53) = wA at *

  refine (C1.out _ (Below.refl _ _)).mono ?_
  rintro e w2 ⟨rfl, hb2⟩
  obtain ⟨x0, x1, x2, x3⟩ := B0.out.below hb2
  have HB2 := Lib.hid hb2
  clear C1 hb2
  go_wp2_with fail
  go_ret
  exact ⟨by rw [HR2.out]; rfl, tr HA.out HB2.out⟩

set_option maxHeartbeats 4000000 in
set_option maxRecDepth 100000 in
include h in
theorem rex12a3 (hl : kids.length = 1) (HN : n ≠ [45] ∧ n ≠ [33]) (hbt : exsR kids = true) : OneQ 154 [] ok exR w0 (.mk 12 n kids p) := by
  intro v w1 hb hv
  obtain ⟨y, c, rfl, hrow⟩ := hv
  generalize c.val = c
  have hlen := len_wtL kids
  have hE : exR (.mk 12 n kids p) = ((decide (n = [45]) || decide (n = [33])) && exsR kids) := by
    rw [exR_eq, if_neg (by decide), if_neg (by decide), if_neg (by decide), if_pos rfl, if_pos hl]
  obtain ⟨R, hR⟩ : ∃ R, exR (.mk 12 n kids p) = R := ⟨_, rfl⟩
  rw [hR] at hE ⊢
  have HR := Lib.hid hE
  show Calls _ _ _ _ (Yes _ w1)
  simp only [List.append_toArray, List.cons_append, List.nil_append]
  have hA : Below w1.heap.size w1 (w1.alloc (ndO 12 n y kids.length c p)) := (Below.refl _ _).alloc (Nat.le_refl _) _
  have B0 := Lib.hid (NdBox.new w1 12 n y kids.length c p)
  have HA := Lib.hid hA
  have C1 : Hid (∀ W, Below (w1.alloc (ndO 12 n y kids.length c p)).heap.size (w1.alloc (ndO 12 n y kids.length c p)) W → Calls Tryz.prog 193 #[.slice y kids.length c] W (Yes (exsR kids) W)) := fun W hW =>
    rall_any ok kids kids.length rfl (by omega) y c W ((hrow.below hA).below hW) (fun x hx => (((h x hx).1.below hb).below hA).below hW)

  obtain ⟨m, hm⟩ : ∃ m, kids.length = m := ⟨_, rfl⟩
  try rw [hm] at hlen
  rw [hm] at hl
  try rw [hm] at HR
  try rw [hm] at hE
  rw [hm] at B0 HA C1 ⊢
  have HM : Hid (m < 2 ^ 40) := by
    show m < 2 ^ 40
    omega
  unfold ndO at B0 HA C1 
  obtain ⟨B, hB⟩ : ∃ B, exsR kids = B := ⟨_, rfl⟩
  rw [hB] at C1 HR
  obtain rfl : B = true := hB.symm.trans hbt
  have Q1 : (n == [45]) = false := str_ne HN.1
  have Q2 : (n == [33]) = false := str_ne HN.2
  clear hbt
  have Q : ((m : Int) == 1) = true := by simp; omega
  have HR2 : Hid (R = false) := by
    show R = false
    rw [HR.out]
    simp [HN.1, HN.2]
  clear hrow hb hA hE hm hlen hR hB h HR hl HN
  go_enter Tryz.func154, Tryz.ntmps154
  go_wp2_with fail
  generalize w1.alloc (.cells #[.int .i64 12, .string ⟨n.toArray⟩, .slice y m c, .int .i64 p] 53) = wA at *

  refine (C1.out _ (Below.refl _ _)).mono ?_
  rintro e w2 ⟨rfl, hb2⟩
  obtain ⟨x0, x1, x2, x3⟩ := B0.out.below hb2
  have HB2 := Lib.hid hb2
  clear C1 hb2
  go_wp2_with fail
  go_ret
  exact ⟨by rw [HR2.out]; rfl, tr HA.out HB2.out⟩

set_option maxHeartbeats 4000000 in
set_option maxRecDepth 100000 in
include h in
theorem rex12a4 (hl : kids.length = 1) (_HN : True) (hbt : exsR kids = false) : OneQ 154 [] ok exR w0 (.mk 12 n kids p) := by
  intro v w1 hb hv
  obtain ⟨y, c, rfl, hrow⟩ := hv
  generalize c.val = c
  have hlen := len_wtL kids
  have hE : exR (.mk 12 n kids p) = ((decide (n = [45]) || decide (n = [33])) && exsR kids) := by
    rw [exR_eq, if_neg (by decide), if_neg (by decide), if_neg (by decide), if_pos rfl, if_pos hl]
  obtain ⟨R, hR⟩ : ∃ R, exR (.mk 12 n kids p) = R := ⟨_, rfl⟩
  rw [hR] at hE ⊢
  have HR := Lib.hid hE
  show Calls _ _ _ _ (Yes _ w1)
  simp only [List.append_toArray, List.cons_append, List.nil_append]
  have hA : Below w1.heap.size w1 (w1.alloc (ndO 12 n y kids.length c p)) := (Below.refl _ _).alloc (Nat.le_refl _) _
  have B0 := Lib.hid (NdBox.new w1 12 n y kids.length c p)
  have HA := Lib.hid hA
  have C1 : Hid (∀ W, Below (w1.alloc (ndO 12 n y kids.length c p)).heap.size (w1.alloc (ndO 12 n y kids.length c p)) W → Calls Tryz.prog 193 #[.slice y kids.length c] W (Yes (exsR kids) W)) := fun W hW =>
    rall_any ok kids kids.length rfl (by omega) y c W ((hrow.below hA).below hW) (fun x hx => (((h x hx).1.below hb).below hA).below hW)

  obtain ⟨m, hm⟩ : ∃ m, kids.length = m := ⟨_, rfl⟩
  try rw [hm] at hlen
  rw [hm] at hl
  try rw [hm] at HR
  try rw [hm] at hE
  rw [hm] at B0 HA C1 ⊢
  have HM : Hid (m < 2 ^ 40) := by
    show m < 2 ^ 40
    omega
  unfold ndO at B0 HA C1 
  obtain ⟨B, hB⟩ : ∃ B, exsR kids = B := ⟨_, rfl⟩
  rw [hB] at C1 HR
  obtain rfl : B = false := hB.symm.trans hbt
  clear hbt
  have Q : ((m : Int) == 1) = true := by simp; omega
  have HR2 : Hid (R = false) := by
    show R = false
    rw [HR.out]
    simp
  clear hrow hb hA hE hm hlen hR hB h HR hl _HN
  go_enter Tryz.func154, Tryz.ntmps154
  go_wp2_with fail
  generalize w1.alloc (.cells #[.int .i64 12, .string ⟨n.toArray⟩, .slice y m c, .int .i64 p] 53) = wA at *

  refine (C1.out _ (Below.refl _ _)).mono ?_
  rintro e w2 ⟨rfl, hb2⟩
  obtain ⟨x0, x1, x2, x3⟩ := B0.out.below hb2
  have HB2 := Lib.hid hb2
  clear C1 hb2
  go_wp2_with fail
  go_ret
  exact ⟨by rw [HR2.out]; rfl, tr HA.out HB2.out⟩

set_option maxHeartbeats 4000000 in
set_option maxRecDepth 100000 in
include hw h in
theorem rex12b (hl : kids.length ≠ 1) : OneQ 154 [] ok exR w0 (.mk 12 n kids p) := by
  intro v w1 hb hv
  obtain ⟨y, c, rfl, hrow⟩ := hv
  generalize c.val = c
  have hlen := len_wtL kids
  have hE : exR (.mk 12 n kids p) = (decide (0 < levelS n) && decide (kids.length = 2) && exsR kids) := by
    rw [exR_eq, if_neg (by decide), if_neg (by decide), if_neg (by decide), if_pos rfl, if_neg hl]
  obtain ⟨R, hR⟩ : ∃ R, exR (.mk 12 n kids p) = R := ⟨_, rfl⟩
  rw [hR] at hE ⊢
  have HR := Lib.hid hE
  show Calls _ _ _ _ (Yes _ w1)
  simp only [List.append_toArray, List.cons_append, List.nil_append]
  have hA : Below w1.heap.size w1 (w1.alloc (ndO 12 n y kids.length c p)) := (Below.refl _ _).alloc (Nat.le_refl _) _
  have B0 := Lib.hid (NdBox.new w1 12 n y kids.length c p)
  have HA := Lib.hid hA
  have C1 : Hid (∀ W, Below (w1.alloc (ndO 12 n y kids.length c p)).heap.size (w1.alloc (ndO 12 n y kids.length c p)) W → Calls Tryz.prog 193 #[.slice y kids.length c] W (Yes (exsR kids) W)) := fun W hW =>
    rall_any ok kids kids.length rfl (by omega) y c W ((hrow.below hA).below hW) (fun x hx => (((h x hx).1.below hb).below hA).below hW)
  have C2 : Hid (∀ W, Calls Tryz.prog 190 #[.string ⟨n.toArray⟩] W fun e w' => e = .returned (.int .i64 ((levelS n : Int) - 1)) ∧ Below W.heap.size W w') := fun W => rlevel_any27 n W

  obtain ⟨m, hm⟩ : ∃ m, kids.length = m := ⟨_, rfl⟩
  try rw [hm] at hlen
  rw [hm] at hl
  try rw [hm] at HR
  try rw [hm] at hE
  rw [hm] at B0 HA C1 ⊢
  have HM : Hid (m < 2 ^ 40) := by
    show m < 2 ^ 40
    omega
  unfold ndO at B0 HA C1 
  obtain ⟨B, hB⟩ : ∃ B, exsR kids = B := ⟨_, rfl⟩
  rw [hB] at C1 HR
  clear hrow hb hA hw hE hm hlen hR hB h
  go_enter Tryz.func154, Tryz.ntmps154
  go_wp2_with fail
  generalize w1.alloc (.cells #[.int .i64 12, .string ⟨n.toArray⟩, .slice y m c, .int .i64 p] 53) = wA at *

  refine (C1.out _ (Below.refl _ _)).mono ?_
  rintro e w2 ⟨rfl, hb2⟩
  obtain ⟨x0, x1, x2, x3⟩ := B0.out.below hb2
  have HB2 := Lib.hid hb2
  clear C1 hb2
  have Q : ((m : Int) == 1) = false := beq_eq_false_iff_ne.2 (by omega)
  cases B
  · have HR2 : Hid (R = false) := by
      show R = false
      rw [HR.out]
      simp
    clear HR hl
    go_wp2_with fail
    go_ret
    exact ⟨by rw [HR2.out]; rfl, tr HA.out HB2.out⟩
  · by_cases h1 : m = 2
    · have Q1 : ((m : Int) == 2) = true := by simp; omega
      have HR3 : Hid (R = decide (0 < levelS n)) := by
        show R = _
        rw [HR.out]
        simp [h1]
      obtain ⟨L, hL⟩ : ∃ L, levelS n = L := ⟨_, rfl⟩
      rw [hL] at C2 HR3
      clear HR hl h1 hL
      go_wp2_with fail
      refine (C2.out _).mono ?_
      rintro e w3 ⟨rfl, hb3⟩
      have HB3 := Lib.hid (tr HB2.out hb3)
      clear hb3 C2
      by_cases h2 : 0 < L
      · have HR2 : Hid (R = true) := by
          show R = true
          rw [HR3.out]
          simpa using h2
        have Q2 : (1 : Int) ≤ (L : Int) := by omega
        clear HR3 h2
        go_wp2_with fail
        go_ret
        exact ⟨by rw [HR2.out]; simp, tr HA.out HB3.out⟩
      · have HR2 : Hid (R = false) := by
          show R = false
          rw [HR3.out]
          simpa using h2
        have Q2 : ¬ (1 : Int) ≤ (L : Int) := by omega
        clear HR3 h2
        go_wp2_with fail
        go_ret
        exact ⟨by rw [HR2.out]; simp [Q2], tr HA.out HB3.out⟩
    · have Q1 : ((m : Int) == 2) = false := beq_eq_false_iff_ne.2 (by omega)
      have HR2 : Hid (R = false) := by
        show R = false
        rw [HR.out]
        simp [h1]
      clear HR hl h1
      go_wp2_with fail
      go_ret
      exact ⟨by rw [HR2.out]; rfl, tr HA.out HB2.out⟩

set_option maxHeartbeats 4000000 in
set_option maxRecDepth 100000 in
include hw in
theorem rex13a (hl : kids.length ≠ 1) : OneQ 154 [] ok exR w0 (.mk 13 n kids p) := by
  intro v w1 hb hv
  obtain ⟨y, c, rfl, hrow⟩ := hv
  generalize c.val = c
  have hlen := len_wtL kids
  have hE : exR (.mk 13 n kids p) = (false) := by
    rw [exR_eq, if_neg (by decide), if_neg (by decide), if_neg (by decide), if_neg (by decide), if_pos rfl]
    have : shR [8] kids = false := by
      cases hs : shR [8] kids
      · rfl
      · have := shR_len _ _ hs
        simp at this
        omega
    rw [this, Bool.and_false]
  obtain ⟨R, hR⟩ : ∃ R, exR (.mk 13 n kids p) = R := ⟨_, rfl⟩
  rw [hR] at hE ⊢
  have HR := Lib.hid hE
  show Calls _ _ _ _ (Yes _ w1)
  simp only [List.append_toArray, List.cons_append, List.nil_append]
  have hA : Below w1.heap.size w1 (w1.alloc (ndO 13 n y kids.length c p)) := (Below.refl _ _).alloc (Nat.le_refl _) _
  have HA := Lib.hid hA

  obtain ⟨m, hm⟩ : ∃ m, kids.length = m := ⟨_, rfl⟩
  try rw [hm] at hlen
  rw [hm] at hl
  rw [hm] at HA ⊢
  have HM : Hid (m < 2 ^ 40) := by
    show m < 2 ^ 40
    omega
  unfold ndO at HA  
  clear hrow hb hA hw hE hm hlen hR
  have Q : ((m : Int) != 1) = true := by simp; omega
  go_enter Tryz.func154, Tryz.ntmps154
  go_wp2_with fail
  go_ret
  exact ⟨by rw [HR.out]; rfl, HA.out⟩

set_option maxHeartbeats 4000000 in
set_option maxRecDepth 100000 in
include hw hG h in
theorem rex13b (x : Nd) (hx : kids = [x]) : OneQ 154 [] ok exR w0 (.mk 13 n kids p) := by
  subst hx
  intro v w1 hb hv
  obtain ⟨y, c, rfl, hrow⟩ := hv
  generalize c.val = c
  have hE : exR (.mk 13 n [x] p) = (plainR n && argR x) := by
    rw [exR_eq, if_neg (by decide), if_neg (by decide), if_neg (by decide), if_neg (by decide), if_pos rfl]
    have : shR [8] [x] = argR x := by
      show ((if (8 : Int) < 0 then exR x else decide (x.kind = 8) && partR x) && true) = argR x
      rw [if_neg (by decide), Bool.and_true]
      rfl
    rw [this]
  obtain ⟨R, hR⟩ : ∃ R, exR (.mk 13 n [x] p) = R := ⟨_, rfl⟩
  rw [hR] at hE ⊢
  have HR := Lib.hid hE
  show Calls _ _ _ _ (Yes _ w1)
  simp only [List.append_toArray, List.cons_append, List.nil_append]
  have hA : Below w1.heap.size w1 (w1.alloc (ndO 13 n y [x].length c p)) := (Below.refl _ _).alloc (Nat.le_refl _) _
  have B0 := Lib.hid (NdBox.new w1 13 n y [x].length c p)
  have HA := Lib.hid hA
  have hr2 := hrow.below hA
  obtain ⟨B, o, rfl, hat, _⟩ := hr2
  have HAT := Lib.hid hat
  have C1 : Hid (∀ W, Below (w1.alloc (ndO 13 n (some ⟨B, o, none⟩) [x].length c p)).heap.size (w1.alloc (ndO 13 n (some ⟨B, o, none⟩) [x].length c p)) W → Calls Tryz.prog 153 #[.string ⟨n.toArray⟩] W (Yes (plainR n) W)) := fun W hW =>
    rplain_any n W (by omega) (((hG.below hb).below hA).below hW)
  have C2 : Hid (∀ W v, Below (w1.alloc (ndO 13 n (some ⟨B, o, none⟩) [x].length c p)).heap.size (w1.alloc (ndO 13 n (some ⟨B, o, none⟩) [x].length c p)) W → NdVal W ok x v → Calls Tryz.prog 157 #[v] W (Yes (argR x) W)) := fun W v hW hv => by
    have := (((h x (by simp)).2.below hb).below hA).below hW v W (Below.refl _ _) hv
    simpa using this
  have HAT2 : Hid (∀ W, Below (w1.alloc (ndO 13 n (some ⟨B, o, none⟩) [x].length c p)).heap.size (w1.alloc (ndO 13 n (some ⟨B, o, none⟩) [x].length c p)) W → NdAt W ok x B o) := fun W hW => HAT.out.mono_below hW
  obtain ⟨b1, hb1⟩ : ∃ b, plainR n = b := ⟨_, rfl⟩
  obtain ⟨b2, hb2⟩ : ∃ b, argR x = b := ⟨_, rfl⟩
  rw [hb1] at C1 HR
  rw [hb2] at C2 HR
  simp only [List.length_singleton] at B0 HA C1 C2 HAT2 ⊢
  unfold ndO at B0 HA C1 C2 HAT2
  clear hrow hb hA hw hE hG h hR hb1 hb2 hat HAT
  go_enter Tryz.func154, Tryz.ntmps154
  go_wp2_with fail
  generalize w1.alloc (.cells #[.int .i64 13, .string ⟨n.toArray⟩, .slice (some ⟨B, o, none⟩) 1 c, .int .i64 p] 53) = wA at *

  refine (C1.out _ (Below.refl _ _)).mono ?_
  rintro e w2 ⟨rfl, hb2⟩
  obtain ⟨x0, x1, x2, x3⟩ := B0.out.below hb2
  have HB2 := Lib.hid hb2
  obtain ⟨k', nm, z, kk, cc, p', rfl, y0, y1, y2, y3, hk⟩ := (HAT2.out w2 hb2).val
  have c2 := C2.out w2 (.agg #[.int .i64 k', .string ⟨nm.toArray⟩, .slice z kk.length cc, .int .i64 p']) hb2 ⟨z, cc, rfl, hk⟩
  clear C1 C2 hb2 HAT2 hk
  go_wp2_with fail
  refine c2.mono ?_
  clear c2
  rintro e w3 ⟨rfl, hb3⟩
  have HB3 := Lib.hid (tr HB2.out hb3)
  clear hb3
  cases b1
  all_goals (
    go_wp2_with fail
    go_ret
    exact ⟨by rw [HR.out]; rfl, tr HA.out HB3.out⟩)

set_option maxHeartbeats 4000000 in
set_option maxRecDepth 100000 in
theorem rexno (k : Int) (hk : k < 9 ∨ 15 < k) : OneQ 154 [] ok exR w0 (.mk k n kids p) := by
  intro v w1 hb hv
  obtain ⟨y, c, rfl, hrow⟩ := hv
  generalize c.val = c
  have hA : Below w1.heap.size w1 (w1.alloc (ndO k n y kids.length c p)) := (Below.refl _ _).alloc (Nat.le_refl _) _
  have HA := Lib.hid hA
  have hE : exR (.mk k n kids p) = false := by
    rw [exR_eq, if_neg (by omega), if_neg (by omega), if_neg (by omega), if_neg (by omega), if_neg (by omega), if_neg (by omega), if_neg (by omega)]
  rw [hE]
  show Calls _ _ _ _ (Yes _ w1)
  simp only [List.append_toArray, List.cons_append, List.nil_append]
  have Q9 : (k == 9) = false := beq_eq_false_iff_ne.2 (by omega)
  have Q10 : (k == 10) = false := beq_eq_false_iff_ne.2 (by omega)
  have Q11 : (k == 11) = false := beq_eq_false_iff_ne.2 (by omega)
  have Q12 : (k == 12) = false := beq_eq_false_iff_ne.2 (by omega)
  have Q13 : (k == 13) = false := beq_eq_false_iff_ne.2 (by omega)
  have Q14 : (k == 14) = false := beq_eq_false_iff_ne.2 (by omega)
  have Q15 : (k == 15) = false := beq_eq_false_iff_ne.2 (by omega)
  clear hrow hb hA hE hk
  go_enter Tryz.func154, Tryz.ntmps154
  go_wp2_with fail
  go_ret
  exact ⟨rfl, HA.out⟩
end
theorem rnode_ck (ok : Nat → Prop) (w0 : World) (hG : Gl w0) : ∀ (N : Nat) (x : Nd), wtN x < N → wtN x < 2 ^ 40 → OneQ 154 [] ok exR w0 x ∧ OneQ 157 [] ok argR w0 x
  | 0, _, h, _ => by omega
  | N + 1, .mk k n kids p, hN, hw => by
    have hK : ∀ x ∈ kids, OneQ 154 [] ok exR w0 x ∧ OneQ 157 [] ok argR w0 x := fun x hx => rnode_ck ok w0 hG N x (by have := kid_wt (k := k) (n := n) (p := p) hx; omega) (by have := kid_wt (k := k) (n := n) (p := p) hx; omega)
    rw [wtN_mk] at hw
    have hw' : wtL kids + n.length < 2 ^ 40 := by omega
    refine ⟨?_, rargs_any27 ok w0 n kids p hw' hK k⟩
    by_cases h9 : k = 9
    · subst h9; exact rex9 ok w0 n kids p hw' hG
    by_cases h10 : k = 10
    · subst h10; exact rex10 ok w0 n kids p hw' hG
    by_cases h11 : k = 11
    · subst h11; exact rex11 ok w0 n kids p hw' hK
    by_cases h12 : k = 12
    · subst h12
      by_cases hl : kids.length = 1
      · cases hbt : exsR kids
        · exact rex12a4 ok w0 n kids p hK hl trivial hbt
        by_cases h45 : n = [45]
        · exact rex12a1 ok w0 n kids p hw' hK hl h45 hbt
        by_cases h33 : n = [33]
        · exact rex12a2 ok w0 n kids p hw' hK hl h33 hbt
        · exact rex12a3 ok w0 n kids p hK hl ⟨h45, h33⟩ hbt
      · exact rex12b ok w0 n kids p hw' hK hl
    by_cases h13 : k = 13
    · subst h13
      by_cases hl : kids.length = 1
      · obtain ⟨x, hx⟩ := List.length_eq_one_iff.1 hl
        exact rex13b ok w0 n kids p hw' hG hK x hx
      · exact rex13a ok w0 n kids p hw' hl
    by_cases h14 : k = 14
    · subst h14; exact rex14 ok w0 n kids p hw' hK
    by_cases h15 : k = 15
    · subst h15; exact rex15 ok w0 n kids p hw' hK
    exact rexno ok w0 n kids p k (by omega)
end Go.Proofs.YtpbkeamjdolpgaaGreatDoor
namespace Go.Proofs.YtpbkeamjdolpgaaGreatDoor
open Go.RowKit Go.Lib Go.Shelf Go.Sort

def KnR (ok : Nat → Prop) (w : World) (x : Nd) : Prop :=
  OneQ 154 [] ok (tstR (-1)) w x ∧ OneQ 157 [] ok (tstR 8) w x ∧ OneQ 155 [] ok (tstR 4) w x ∧ OneQ 156 [] ok (tstR 0) w x
theorem KnR.below {ok : Nat → Prop} {w w1 : World} {x : Nd} (h : KnR ok w x) (hb : Below w.heap.size w w1) : KnR ok w1 x := ⟨h.1.below hb, h.2.1.below hb, h.2.2.1.below hb, h.2.2.2.below hb⟩
theorem tst_ex : tstR (-1) = exR := funext fun x => by unfold tstR; rw [if_pos (by decide)]
theorem tst_arg : tstR 8 = argR := funext fun x => by unfold tstR argR; rw [if_neg (by decide)]
def parQ (x : Nd) : Bool := decide (x.kind = 10) && exR x
theorem parQ_mk (k : Int) (n : List UInt8) (l : List Nd) (p : Int) : parQ (.mk k n l p) = (plainR n && decide (k = 10) && decide (l.length = 0)) := by
  show (decide (k = 10) && exR (.mk k n l p)) = _
  by_cases h : k = 10
  · subst h
    rw [exR_eq, if_neg (by decide), if_pos rfl]
    cases l <;> simp
  · simp [h]
theorem tst4_mk (k : Int) (n : List UInt8) (l : List Nd) (p : Int) : tstR 4 (.mk k n l p) = (decide (k = 4) && n.isEmpty && l.all parQ) := by
  unfold tstR
  rw [if_neg (by decide)]
  show (decide (k = 4) && partR (.mk k n l p)) = _
  rw [partR]
  by_cases h : k = 4
  · subst h
    rw [if_neg (by decide), if_pos rfl, parsR_all]
    simp only [decide_true, Bool.true_and]
    rfl
  · simp [h]
theorem tst0_mk (k : Int) (n : List UInt8) (l : List Nd) (p : Int) : tstR 0 (.mk k n l p) = (decide (k = 0) && n.isEmpty && stsR l) := by
  unfold tstR
  rw [if_neg (by decide)]
  show (decide (k = 0) && partR (.mk k n l p)) = _
  rw [partR]
  by_cases h : k = 0
  · subst h
    rw [if_pos rfl]
    simp
  · simp [h]
section
variable (ok : Nat → Prop) (w0 : World) (n : List UInt8) (kids : List Nd) (p : Int) (hw : wtL kids + n.length < 2 ^ 40) (hG : Gl w0)
set_option maxHeartbeats 4000000 in
set_option maxRecDepth 100000 in
include hw hG in
theorem rpars_any27 (k : Int) : OneQ 155 [] ok (tstR 4) w0 (.mk k n kids p) := by
  intro v w1 hb hv
  obtain ⟨y, c, rfl, hrow⟩ := hv
  generalize c.val = c
  have hlen := len_wtL kids
  have hE := tst4_mk k n kids p
  obtain ⟨R, hR⟩ : ∃ R, tstR 4 (.mk k n kids p) = R := ⟨_, rfl⟩
  rw [hR] at hE ⊢
  have HR := Lib.hid hE
  show Calls _ _ _ _ (Yes _ w1)
  simp only [List.append_toArray, List.cons_append, List.nil_append]
  have hA : Below w1.heap.size w1 (w1.alloc (ndO k n y kids.length c p)) := (Below.refl _ _).alloc (Nat.le_refl _) _
  have B0 := Lib.hid (NdBox.new w1 k n y kids.length c p)
  have HA := Lib.hid hA
  have HROW := Lib.hid (hrow.below hA)
  have C1 : Hid (∀ W, Below (w1.alloc (ndO k n y kids.length c p)).heap.size (w1.alloc (ndO k n y kids.length c p)) W → ∀ s : List UInt8, s.length < 2 ^ 40 → Calls Tryz.prog 153 #[.string ⟨s.toArray⟩] W (Yes (plainR s) W)) := fun W hW s hs =>
    rplain_any s W (by omega) (((hG.below hb).below hA).below hW)
  have HK : Hid (∀ (k : Int) (s : List UInt8) (l : List Nd) (q : Int), .mk k s l q ∈ kids → s.length < 2 ^ 40 ∧ l.length < 2 ^ 40) := fun k s l q hm => by
    have h1 := wtL_mem hm
    rw [wtN_mk] at h1
    have h2 := len_wtL l
    omega
  obtain ⟨m, hm⟩ : ∃ m, kids.length = m := ⟨_, rfl⟩
  rw [hm] at hlen
  rw [hm] at B0 HA C1 HROW ⊢
  have HL := Lib.hid hm
  have hm62 : m < 2 ^ 62 := by omega
  unfold ndO at B0 HA C1 HROW
  clear hrow hb hA hw hE hG hm hlen hR
  by_cases h4 : k = 4
  · subst h4
    by_cases hq : n = []
    · subst hq
      have HR2 : Hid (R = kids.all parQ) := by
        show R = _
        rw [HR.out]
        rfl
      clear HR
      go_enter Tryz.func155, Tryz.ntmps155
      go_wp2_with fail
      generalize w1.alloc (.cells #[.int .i64 4, .string ⟨#[]⟩, .slice y m c, .int .i64 p] 53) = wA at *

      go_loopw [3] (fun v wx => ∃ i : Nat, v = .int .i64 i ∧ i ≤ m ∧ Below wA.heap.size wA wx ∧ Hid ((kids.take i).all parQ = true)) (fun v _ => m - (RowKit.intOf v).toNat)
      case atStart => exact ⟨0, rfl, Nat.zero_le _, Below.refl _ _, by simp [Hid]⟩
      case round =>
        obtain ⟨i, rfl, hi, hb, hf⟩ := hrel
        obtain ⟨b0, b1, b2, b3⟩ := B0.out.below hb
        by_cases hlt : i < m
        · obtain ⟨u, hu⟩ : ∃ u, kids[i]? = some u := ⟨kids[i]'(by have := HL.out; omega), List.getElem?_eq_getElem _⟩
          obtain ⟨B, o, rfl, hat⟩ := (HROW.out.below hb).at_ hu
          obtain ⟨k', nm, z, kk, cc, p', rfl, x0, x1, x2, x3, hk⟩ := hat.val
          obtain ⟨hs1, hs2⟩ := HK.out k' nm kk p' (List.mem_of_getElem? hu)
          have c1 := C1.out wr hb nm hs1
          have hmk := parQ_mk k' nm kk p'
          have HN : Hid (parQ (.mk k' nm kk p') = true → (kids.take (i + 1)).all parQ = true) := fun ht => by
            rw [List.take_add_one, hu, List.all_append, hf.out]
            simp [ht]
          have HX : Hid (parQ (.mk k' nm kk p') = false → R = false) := fun ht => by
            rw [HR2.out]
            exact List.all_eq_false.2 ⟨_, List.mem_of_getElem? hu, by simpa using ht⟩
          have HX2 : Hid (∀ wx, Below wr.heap.size wr wx → wx.cell? ⟨B, o + i * 4, none⟩ = some (.int .i64 k') ∧ wx.cell? ⟨B, o + i * 4 + 2, none⟩ = some (.slice z kk.length cc)) := fun wx h =>
            ⟨(h.cell (p := ⟨B, o + i * 4, none⟩) (World.block_lt_of_cell? wr _ x0)).trans x0, (h.cell (p := ⟨B, o + i * 4 + 2, none⟩) (World.block_lt_of_cell? wr _ x2)).trans x2⟩
          have hlt' : (i : Int) < (m : Int) := by omega
          have Qi : IntKind.i64.wrap ((i : Int) + 1) = (i : Int) + 1 := IntWalk.i64_in _ (by omega)
          obtain ⟨b, hB⟩ : ∃ b, plainR nm = b := ⟨_, rfl⟩
          rw [hB] at c1 hmk
          have HMK := Lib.hid hmk
          obtain ⟨ml, hml⟩ : ∃ ml, kk.length = ml := ⟨_, rfl⟩
          generalize cc.val = cc at HX2 x2
          rw [hml] at HMK HX2 x2 hs2
          clear hu hf hk hat hB hs1 hmk hml
          go_wp2_with fail
          refine c1.mono ?_
          clear c1
          rintro e w3 ⟨rfl, hb3⟩
          obtain ⟨y0, y2⟩ := HX2.out w3 hb3
          have HB3 := Lib.hid (hb.trans (hb3.mono hb.size))
          obtain ⟨d0, d1, d2, d3⟩ := B0.out.below HB3.out
          clear x0 x1 x2 x3 b0 b1 b2 b3 hb3 HX2
          cases b
          · have HR3 : Hid (R = false) := HX.out (by rw [HMK.out]; simp)
            clear HMK HN HX
            go_wp2_with fail
            go_ret
            exact ⟨by rw [HR3.out]; rfl, tr HA.out HB3.out⟩
          · by_cases h10 : k' = 10
            · have Q10 : (k' != 10) = false := by rw [bne_eq_false_iff_eq]; exact h10
              by_cases h0 : ml = 0
              · have Q0 : ((ml : Int) != 0) = false := by rw [bne_eq_false_iff_eq]; omega
                have HN2 := Lib.hid (HN.out (by rw [HMK.out]; simp [h10, h0]))
                clear HMK HN HX h10 h0
                go_wp2_with fail
                go_roundw
                case rel => exact ⟨i + 1, by go_num, by omega, HB3.out, HN2⟩
                case measure => simp [RowKit.intOf]; omega
              · have Q0 : ((ml : Int) != 0) = true := by simp; omega
                have HR3 : Hid (R = false) := HX.out (by rw [HMK.out]; simp [h0])
                clear HMK HN HX h10 h0
                go_wp2_with fail
                go_ret
                exact ⟨by rw [HR3.out]; rfl, tr HA.out HB3.out⟩
            · have Q10 : (k' != 10) = true := by simpa using h10
              have HR3 : Hid (R = false) := HX.out (by rw [HMK.out]; simp [h10])
              clear HMK HN HX h10
              go_wp2_with fail
              go_ret
              exact ⟨by rw [HR3.out]; rfl, tr HA.out HB3.out⟩
        · have HM : Hid (R = true) := by
            show R = true
            rw [HR2.out]
            have := hf.out
            rwa [List.take_of_length_le (by have := HL.out; omega)] at this
          have hlt' : ¬ (i : Int) < (m : Int) := by omega
          clear hf
          go_wp2_with fail
          go_ret
          exact ⟨by rw [HM.out]; rfl, tr HA.out hb⟩
    · have Q : (n != []) = true := by simpa using hq
      have Qb : (n == []) = false := str_ne hq
      have HR2 : Hid (R = false) := by
        show R = false
        rw [HR.out]
        simp [hq]
      clear HR hq
      go_enter Tryz.func155, Tryz.ntmps155
      go_wp2_with fail
      go_ret
      exact ⟨by rw [HR2.out]; rfl, HA.out⟩
  · have Q : (k != 4) = true := by simpa using h4
    have HR2 : Hid (R = false) := by
      show R = false
      rw [HR.out]
      simp [h4]
    clear HR h4
    go_enter Tryz.func155, Tryz.ntmps155
    go_wp2_with fail
    go_ret
    exact ⟨by rw [HR2.out]; rfl, HA.out⟩
end
set_option maxHeartbeats 4000000 in
set_option maxRecDepth 100000 in
theorem rsts_any27 (ok : Nat → Prop) (l : List Nd) (n : Nat) (hl : l.length = n) (hn : n < 2 ^ 62) (y : Option Addr) (c : Nat) (w : World) (hrow : NdRow w ok l y) (h : ∀ x ∈ l, OneQ 101 [] ok stR w x) :
    Calls Tryz.prog 56 #[.slice y n c] w (Yes (stsR l) w) := by
  have HROW := Lib.hid hrow
  have HL := Lib.hid hl
  have HH := Lib.hid h
  obtain ⟨R, hR⟩ : ∃ R, stsR l = R := ⟨_, rfl⟩
  have HR : Hid (R = l.all stR) := by
    show R = _
    rw [← hR, stsR_all]
  rw [hR]
  clear h hl hrow hR
  go_enter Tryz.func56, Tryz.ntmps56
  go_wp2_with fail
  go_loopw [3] (fun v wx => ∃ i : Nat, v = .int .i64 i ∧ i ≤ n ∧ Below w.heap.size w wx ∧ Hid ((l.take i).all stR = true)) (fun v _ => n - (RowKit.intOf v).toNat)
  case atStart => exact ⟨0, rfl, Nat.zero_le _, Below.refl _ _, by simp [Hid]⟩
  case round =>
    obtain ⟨i, rfl, hi, hb, hf⟩ := hrel
    by_cases hlt : i < n
    · obtain ⟨u, hu⟩ : ∃ u, l[i]? = some u := ⟨l[i]'(by have := HL.out; omega), List.getElem?_eq_getElem _⟩
      obtain ⟨B, o, rfl, hat⟩ := (HROW.out.below hb).at_ hu
      obtain ⟨k, nm, z, kids, cc, p, rfl, x0, x1, x2, x3, hk⟩ := hat.val
      have c1 := HH.out _ (List.mem_of_getElem? hu) (.agg #[.int .i64 k, .string ⟨nm.toArray⟩, .slice z kids.length cc, .int .i64 p]) wr hb ⟨z, cc, rfl, hk⟩
      have HN : Hid ((l.take (i + 1)).all stR = stR (.mk k nm kids p)) := by
        show _ = _
        rw [List.take_add_one, hu, List.all_append, hf.out]
        simp
      have HA : Hid (stR (.mk k nm kids p) = false → R = false) := fun ht => by
        rw [HR.out]
        exact List.all_eq_false.2 ⟨_, List.mem_of_getElem? hu, by simpa using ht⟩
      have hlt' : (i : Int) < (n : Int) := by omega
      have Qi : IntKind.i64.wrap ((i : Int) + 1) = (i : Int) + 1 := IntWalk.i64_in _ (by omega)
      simp only [List.append_toArray, List.cons_append, List.nil_append] at c1
      cases hB : stR (.mk k nm kids p)
      · rw [hB] at c1
        have HB := Lib.hid hB
        clear hu hf hB hk hat HN
        go_wp2_with fail
        refine c1.mono ?_
        clear c1
        rintro e w1 ⟨rfl, hb1⟩
        go_wp2_with fail
        go_ret
        exact ⟨by rw [HA.out HB.out]; rfl, tr hb hb1⟩
      · rw [hB] at c1
        have HB := Lib.hid hB
        clear hu hf hB hk hat HA
        go_wp2_with fail
        refine c1.mono ?_
        clear c1
        rintro e w1 ⟨rfl, hb1⟩
        go_wp2_with fail
        go_roundw
        case rel => exact ⟨i + 1, by go_num, by omega, tr hb hb1, by rw [HN.out, HB.out]; rfl⟩
        case measure => simp [RowKit.intOf]; omega
    · have HM : Hid (R = true) := by
        show R = true
        rw [HR.out]
        have := hf.out
        rwa [List.take_of_length_le (by have := HL.out; omega)] at this
      have hlt' : ¬ (i : Int) < (n : Int) := by omega
      clear hf
      go_wp2_with fail
      go_ret
      exact ⟨by rw [HM.out]; rfl, hb⟩
set_option maxHeartbeats 4000000 in
set_option maxRecDepth 100000 in
theorem rbody_any27 (ok : Nat → Prop) (w0 : World) (k : Int) (n : List UInt8) (kids : List Nd) (p : Int) (hw : wtL kids + n.length < 2 ^ 40) (h : ∀ x ∈ kids, OneQ 101 [] ok stR w0 x) : OneQ 156 [] ok (tstR 0) w0 (.mk k n kids p) := by
  intro v w1 hb hv
  obtain ⟨y, c, rfl, hrow⟩ := hv
  generalize c.val = c
  have hlen := len_wtL kids
  have hE := tst0_mk k n kids p
  obtain ⟨R, hR⟩ : ∃ R, tstR 0 (.mk k n kids p) = R := ⟨_, rfl⟩
  rw [hR] at hE ⊢
  have HR := Lib.hid hE
  show Calls _ _ _ _ (Yes _ w1)
  simp only [List.append_toArray, List.cons_append, List.nil_append]
  have hA : Below w1.heap.size w1 (w1.alloc (ndO k n y kids.length c p)) := (Below.refl _ _).alloc (Nat.le_refl _) _
  have B0 := Lib.hid (NdBox.new w1 k n y kids.length c p)
  have HA := Lib.hid hA
  have C1 : Hid (∀ W, Below (w1.alloc (ndO k n y kids.length c p)).heap.size (w1.alloc (ndO k n y kids.length c p)) W → Calls Tryz.prog 56 #[.slice y kids.length c] W (Yes (stsR kids) W)) := fun W hW =>
    rsts_any27 ok kids kids.length rfl (by omega) y c W ((hrow.below hA).below hW) (fun x hx => (((h x hx).below hb).below hA).below hW)
  obtain ⟨m, hm⟩ : ∃ m, kids.length = m := ⟨_, rfl⟩
  rw [hm] at B0 HA C1 ⊢
  unfold ndO at B0 HA C1
  obtain ⟨B, hB⟩ : ∃ B, stsR kids = B := ⟨_, rfl⟩
  rw [hB] at C1 HR
  clear hrow hb hA hw hE hm hlen hR hB h
  go_enter Tryz.func156, Tryz.ntmps156
  go_wp2_with fail
  generalize w1.alloc (.cells #[.int .i64 k, .string ⟨n.toArray⟩, .slice y m c, .int .i64 p] 53) = wA at *

  refine (C1.out _ (Below.refl _ _)).mono ?_
  rintro e w2 ⟨rfl, hb2⟩
  obtain ⟨x0, x1, x2, x3⟩ := B0.out.below hb2
  have HB2 := Lib.hid hb2
  clear C1 hb2
  by_cases h8 : k = 0
  · subst h8
    by_cases hq : n = []
    · subst hq
      have HR2 : Hid (R = B) := by
        show R = B
        rw [HR.out]
        rfl
      clear HR
      go_wp2_with fail
      go_ret
      exact ⟨by rw [HR2.out]; rfl, tr HA.out HB2.out⟩
    · have Q : (n == []) = false := str_ne hq
      have HR2 : Hid (R = false) := by
        show R = false
        rw [HR.out]
        simp [hq]
      clear hq HR
      go_wp2_with fail
      go_ret
      exact ⟨by rw [HR2.out]; rfl, tr HA.out HB2.out⟩
  · have Q : (k == 0) = false := beq_eq_false_iff_ne.2 h8
    have HR2 : Hid (R = false) := by
      show R = false
      rw [HR.out]
      simp [h8]
    clear h8 HR
    go_wp2_with fail
    go_ret
    exact ⟨by rw [HR2.out]; rfl, tr HA.out HB2.out⟩
end Go.Proofs.YtpbkeamjdolpgaaGreatDoor
namespace Go.Proofs.YtpbkeamjdolpgaaGreatDoor
open Go.RowKit Go.Lib Go.Shelf Go.Sort

section
variable (ok : Nat → Prop) (w0 : World) (n : List UInt8) (kids : List Nd) (p : Int) (hw : wtL kids + n.length < 2 ^ 40) (hG : Gl w0) (h : ∀ x ∈ kids, KnR ok w0 x)
set_option maxHeartbeats 4000000 in
set_option maxRecDepth 100000 in
include hw hG h in
theorem rst1_any : OneQ 101 [] ok stR w0 (.mk 1 n kids p) := by
  intro v w1 hb hv
  obtain ⟨y, c, rfl, hrow⟩ := hv
  generalize c.val = c
  have hlen := len_wtL kids
  have hE : stR (.mk 1 n kids p) = (plainR n && shR [-1] kids) := by
    rw [stR_eq, if_neg (by decide), if_pos rfl]
  obtain ⟨R, hR⟩ : ∃ R, stR (.mk 1 n kids p) = R := ⟨_, rfl⟩
  rw [hR] at hE ⊢
  have HR := Lib.hid hE
  show Calls _ _ _ _ (Yes _ w1)
  simp only [List.append_toArray, List.cons_append, List.nil_append]
  have hA : Below w1.heap.size w1 (w1.alloc (ndO 1 n y kids.length c p)) := (Below.refl _ _).alloc (Nat.le_refl _) _
  have B0 := Lib.hid (NdBox.new w1 1 n y kids.length c p)
  have HA := Lib.hid hA
  have HROW := Lib.hid (hrow.below hA)
  have HK : Hid (∀ x ∈ kids, KnR ok (w1.alloc (ndO 1 n y kids.length c p)) x) := fun x hx => ((h x hx).below hb).below hA
  have C1 : Hid (∀ W, Below (w1.alloc (ndO 1 n y kids.length c p)).heap.size (w1.alloc (ndO 1 n y kids.length c p)) W → Calls Tryz.prog 153 #[.string ⟨n.toArray⟩] W (Yes (plainR n) W)) := fun W hW =>
    rplain_any n W (by omega) (((hG.below hb).below hA).below hW)
  obtain ⟨m, hm⟩ : ∃ m, kids.length = m := ⟨_, rfl⟩
  rw [hm] at B0 HA C1 HROW HK ⊢
  have HL := Lib.hid hm
  unfold ndO at B0 HA C1 HROW HK
  obtain ⟨bp, hbp⟩ : ∃ b, plainR n = b := ⟨_, rfl⟩
  rw [hbp] at C1 HR
  clear hrow hb hA hw hE hG hm hlen hR hbp h
  go_enter Tryz.func101, Tryz.ntmps101
  go_wp2_with fail
  generalize w1.alloc (.cells #[.int .i64 1, .string ⟨n.toArray⟩, .slice y m c, .int .i64 p] 53) = wA at *

  refine (C1.out _ (Below.refl _ _)).mono ?_
  rintro e w2 ⟨rfl, hb2⟩
  obtain ⟨b0, b1, b2, b3⟩ := B0.out.below hb2
  have HB2 := Lib.hid hb2
  clear C1 hb2
  cases bp
  · have HR2 : Hid (R = false) := by
      show R = false
      rw [HR.out]
      simp
    clear HR
    go_wp2_with fail
    go_ret
    exact ⟨by rw [HR2.out]; rfl, tr HA.out HB2.out⟩
  · by_cases hl : m = 1
    · subst hl
      obtain ⟨x0, rfl⟩ := List.length_eq_one_iff.1 HL.out
      have HR2 : Hid (R = (tstR (-1) x0)) := by
        show R = _
        rw [HR.out]
        show (true && (tstR (-1) x0 && true)) = _
        simp
      have hrw := HROW.out
      obtain ⟨B, o, rfl, hat0, hrw⟩ := hrw
      have HAT0 : Hid (∀ W, Below wA.heap.size wA W → NdAt W ok x0 B o) := fun W hW => (hat0).mono_below hW
      have HKN0 : Hid (KnR ok wA x0) := HK.out x0 (by simp)
      obtain ⟨t0, ht0⟩ : ∃ t, tstR (-1) x0 = t := ⟨_, rfl⟩
      have HT0 := Lib.hid ht0
      rw [ht0] at HR2
      clear ht0 hat0
      clear hrw HR HROW HK
      obtain ⟨k0, nm0, z0, kk0, cc0, p0, e0, y00, y01, y02, y03, hk0⟩ := ((HAT0.out w2 HB2.out)).val
      have c0 := (HKN0.out).1 (.agg #[.int .i64 k0, .string ⟨nm0.toArray⟩, .slice z0 kk0.length cc0, .int .i64 p0]) w2 HB2.out (by rw [e0]; exact ⟨z0, cc0, rfl, hk0⟩)
      simp only [List.append_toArray, List.cons_append, List.nil_append] at c0
      rw [HT0.out] at c0
      clear hk0 e0
      go_wp2_with fail
      refine c0.mono ?_
      clear c0
      rintro e w3 ⟨rfl, hw3⟩
      have Hw3 := Lib.hid (HB2.out.trans (hw3.mono HB2.out.size))
      obtain ⟨b0, b1, b2, b3⟩ := B0.out.below Hw3.out
      clear hw3 y00 y01 y02 y03
      go_wp2_with fail
      go_ret
      exact ⟨by rw [HR2.out]; rfl, tr HA.out Hw3.out⟩
    · have Q : ((m : Int) == 1) = false := beq_eq_false_iff_ne.2 (by omega)
      have HR2 : Hid (R = false) := by
        show R = false
        rw [HR.out]
        cases hs : shR [-1] kids
        · rfl
        · have h1 := shR_len _ _ hs
          have h2 := HL.out
          simp at h1
          omega
      clear HR hl
      go_wp2_with fail
      go_ret
      exact ⟨by rw [HR2.out]; rfl, tr HA.out HB2.out⟩

set_option maxHeartbeats 4000000 in
set_option maxRecDepth 100000 in
include hw hG h in
theorem rst2_any : OneQ 101 [] ok stR w0 (.mk 2 n kids p) := by
  intro v w1 hb hv
  obtain ⟨y, c, rfl, hrow⟩ := hv
  generalize c.val = c
  have hlen := len_wtL kids
  have hE : stR (.mk 2 n kids p) = (plainR n && shR [4, 0] kids) := by
    rw [stR_eq, if_neg (by decide), if_neg (by decide), if_pos rfl]
  obtain ⟨R, hR⟩ : ∃ R, stR (.mk 2 n kids p) = R := ⟨_, rfl⟩
  rw [hR] at hE ⊢
  have HR := Lib.hid hE
  show Calls _ _ _ _ (Yes _ w1)
  simp only [List.append_toArray, List.cons_append, List.nil_append]
  have hA : Below w1.heap.size w1 (w1.alloc (ndO 2 n y kids.length c p)) := (Below.refl _ _).alloc (Nat.le_refl _) _
  have B0 := Lib.hid (NdBox.new w1 2 n y kids.length c p)
  have HA := Lib.hid hA
  have HROW := Lib.hid (hrow.below hA)
  have HK : Hid (∀ x ∈ kids, KnR ok (w1.alloc (ndO 2 n y kids.length c p)) x) := fun x hx => ((h x hx).below hb).below hA
  have C1 : Hid (∀ W, Below (w1.alloc (ndO 2 n y kids.length c p)).heap.size (w1.alloc (ndO 2 n y kids.length c p)) W → Calls Tryz.prog 153 #[.string ⟨n.toArray⟩] W (Yes (plainR n) W)) := fun W hW =>
    rplain_any n W (by omega) (((hG.below hb).below hA).below hW)
  obtain ⟨m, hm⟩ : ∃ m, kids.length = m := ⟨_, rfl⟩
  rw [hm] at B0 HA C1 HROW HK ⊢
  have HL := Lib.hid hm
  unfold ndO at B0 HA C1 HROW HK
  obtain ⟨bp, hbp⟩ : ∃ b, plainR n = b := ⟨_, rfl⟩
  rw [hbp] at C1 HR
  clear hrow hb hA hw hE hG hm hlen hR hbp h
  go_enter Tryz.func101, Tryz.ntmps101
  go_wp2_with fail
  generalize w1.alloc (.cells #[.int .i64 2, .string ⟨n.toArray⟩, .slice y m c, .int .i64 p] 53) = wA at *

  refine (C1.out _ (Below.refl _ _)).mono ?_
  rintro e w2 ⟨rfl, hb2⟩
  obtain ⟨b0, b1, b2, b3⟩ := B0.out.below hb2
  have HB2 := Lib.hid hb2
  clear C1 hb2
  cases bp
  · have HR2 : Hid (R = false) := by
      show R = false
      rw [HR.out]
      simp
    clear HR
    go_wp2_with fail
    go_ret
    exact ⟨by rw [HR2.out]; rfl, tr HA.out HB2.out⟩
  · by_cases hl : m = 2
    · subst hl
      obtain ⟨x0, x1, rfl⟩ := len_two HL.out
      have HR2 : Hid (R = (tstR 4 x0 && tstR 0 x1)) := by
        show R = _
        rw [HR.out]
        show (true && (tstR 4 x0 && (tstR 0 x1 && true))) = _
        simp
      have hrw := HROW.out
      obtain ⟨B, o, rfl, hat0, hrw⟩ := hrw
      obtain ⟨B', o', e', hat1, hrw⟩ := hrw
      cases e'
      have HAT0 : Hid (∀ W, Below wA.heap.size wA W → NdAt W ok x0 B o) := fun W hW => (hat0).mono_below hW
      have HKN0 : Hid (KnR ok wA x0) := HK.out x0 (by simp)
      obtain ⟨t0, ht0⟩ : ∃ t, tstR 4 x0 = t := ⟨_, rfl⟩
      have HT0 := Lib.hid ht0
      rw [ht0] at HR2
      clear ht0 hat0
      have HAT1 : Hid (∀ W, Below wA.heap.size wA W → NdAt W ok x1 B (o + 4)) := fun W hW => (hat1).mono_below hW
      have HKN1 : Hid (KnR ok wA x1) := HK.out x1 (by simp)
      obtain ⟨t1, ht1⟩ : ∃ t, tstR 0 x1 = t := ⟨_, rfl⟩
      have HT1 := Lib.hid ht1
      rw [ht1] at HR2
      clear ht1 hat1
      clear hrw HR HROW HK
      obtain ⟨k0, nm0, z0, kk0, cc0, p0, e0, y00, y01, y02, y03, hk0⟩ := ((HAT0.out w2 HB2.out)).val
      have c0 := (HKN0.out).2.2.1 (.agg #[.int .i64 k0, .string ⟨nm0.toArray⟩, .slice z0 kk0.length cc0, .int .i64 p0]) w2 HB2.out (by rw [e0]; exact ⟨z0, cc0, rfl, hk0⟩)
      simp only [List.append_toArray, List.cons_append, List.nil_append] at c0
      rw [HT0.out] at c0
      clear hk0 e0
      go_wp2_with fail
      refine c0.mono ?_
      clear c0
      rintro e w3 ⟨rfl, hw3⟩
      have Hw3 := Lib.hid (HB2.out.trans (hw3.mono HB2.out.size))
      obtain ⟨b0, b1, b2, b3⟩ := B0.out.below Hw3.out
      clear hw3 y00 y01 y02 y03
      cases t0
      · have HR3 : Hid (R = false) := by
          show R = false
          rw [HR2.out]
          simp
        clear HR2
        go_wp2_with fail
        go_ret
        exact ⟨by rw [HR3.out]; rfl, tr HA.out Hw3.out⟩
      · have HR3 : Hid (R = t1) := by
          show R = t1
          rw [HR2.out]
          simp
        clear HR2
        obtain ⟨k1, nm1, z1, kk1, cc1, p1, e1, y10, y11, y12, y13, hk1⟩ := ((HAT1.out w3 Hw3.out)).val
        have c1 := (HKN1.out).2.2.2 (.agg #[.int .i64 k1, .string ⟨nm1.toArray⟩, .slice z1 kk1.length cc1, .int .i64 p1]) w3 Hw3.out (by rw [e1]; exact ⟨z1, cc1, rfl, hk1⟩)
        simp only [List.append_toArray, List.cons_append, List.nil_append] at c1
        rw [HT1.out] at c1
        clear hk1 e1
        go_wp2_with fail
        refine c1.mono ?_
        clear c1
        rintro e w4 ⟨rfl, hw4⟩
        have Hw4 := Lib.hid (Hw3.out.trans (hw4.mono Hw3.out.size))
        obtain ⟨b0, b1, b2, b3⟩ := B0.out.below Hw4.out
        clear hw4 y10 y11 y12 y13
        go_wp2_with fail
        go_ret
        exact ⟨by rw [HR3.out]; rfl, tr HA.out Hw4.out⟩
    · have Q : ((m : Int) == 2) = false := beq_eq_false_iff_ne.2 (by omega)
      have HR2 : Hid (R = false) := by
        show R = false
        rw [HR.out]
        cases hs : shR [4, 0] kids
        · rfl
        · have h1 := shR_len _ _ hs
          have h2 := HL.out
          simp at h1
          omega
      clear HR hl
      go_wp2_with fail
      go_ret
      exact ⟨by rw [HR2.out]; rfl, tr HA.out HB2.out⟩

set_option maxHeartbeats 4000000 in
set_option maxRecDepth 100000 in
include hw hG h in
theorem rst3_any : OneQ 101 [] ok stR w0 (.mk 3 n kids p) := by
  intro v w1 hb hv
  obtain ⟨y, c, rfl, hrow⟩ := hv
  generalize c.val = c
  have hlen := len_wtL kids
  have hE : stR (.mk 3 n kids p) = (plainR n && shR [4, -1] kids) := by
    rw [stR_eq, if_neg (by decide), if_neg (by decide), if_neg (by decide), if_pos rfl]
  obtain ⟨R, hR⟩ : ∃ R, stR (.mk 3 n kids p) = R := ⟨_, rfl⟩
  rw [hR] at hE ⊢
  have HR := Lib.hid hE
  show Calls _ _ _ _ (Yes _ w1)
  simp only [List.append_toArray, List.cons_append, List.nil_append]
  have hA : Below w1.heap.size w1 (w1.alloc (ndO 3 n y kids.length c p)) := (Below.refl _ _).alloc (Nat.le_refl _) _
  have B0 := Lib.hid (NdBox.new w1 3 n y kids.length c p)
  have HA := Lib.hid hA
  have HROW := Lib.hid (hrow.below hA)
  have HK : Hid (∀ x ∈ kids, KnR ok (w1.alloc (ndO 3 n y kids.length c p)) x) := fun x hx => ((h x hx).below hb).below hA
  have C1 : Hid (∀ W, Below (w1.alloc (ndO 3 n y kids.length c p)).heap.size (w1.alloc (ndO 3 n y kids.length c p)) W → Calls Tryz.prog 153 #[.string ⟨n.toArray⟩] W (Yes (plainR n) W)) := fun W hW =>
    rplain_any n W (by omega) (((hG.below hb).below hA).below hW)
  obtain ⟨m, hm⟩ : ∃ m, kids.length = m := ⟨_, rfl⟩
  rw [hm] at B0 HA C1 HROW HK ⊢
  have HL := Lib.hid hm
  unfold ndO at B0 HA C1 HROW HK
  obtain ⟨bp, hbp⟩ : ∃ b, plainR n = b := ⟨_, rfl⟩
  rw [hbp] at C1 HR
  clear hrow hb hA hw hE hG hm hlen hR hbp h
  go_enter Tryz.func101, Tryz.ntmps101
  go_wp2_with fail
  generalize w1.alloc (.cells #[.int .i64 3, .string ⟨n.toArray⟩, .slice y m c, .int .i64 p] 53) = wA at *

  refine (C1.out _ (Below.refl _ _)).mono ?_
  rintro e w2 ⟨rfl, hb2⟩
  obtain ⟨b0, b1, b2, b3⟩ := B0.out.below hb2
  have HB2 := Lib.hid hb2
  clear C1 hb2
  cases bp
  · have HR2 : Hid (R = false) := by
      show R = false
      rw [HR.out]
      simp
    clear HR
    go_wp2_with fail
    go_ret
    exact ⟨by rw [HR2.out]; rfl, tr HA.out HB2.out⟩
  · by_cases hl : m = 2
    · subst hl
      obtain ⟨x0, x1, rfl⟩ := len_two HL.out
      have HR2 : Hid (R = (tstR 4 x0 && tstR (-1) x1)) := by
        show R = _
        rw [HR.out]
        show (true && (tstR 4 x0 && (tstR (-1) x1 && true))) = _
        simp
      have hrw := HROW.out
      obtain ⟨B, o, rfl, hat0, hrw⟩ := hrw
      obtain ⟨B', o', e', hat1, hrw⟩ := hrw
      cases e'
      have HAT0 : Hid (∀ W, Below wA.heap.size wA W → NdAt W ok x0 B o) := fun W hW => (hat0).mono_below hW
      have HKN0 : Hid (KnR ok wA x0) := HK.out x0 (by simp)
      obtain ⟨t0, ht0⟩ : ∃ t, tstR 4 x0 = t := ⟨_, rfl⟩
      have HT0 := Lib.hid ht0
      rw [ht0] at HR2
      clear ht0 hat0
      have HAT1 : Hid (∀ W, Below wA.heap.size wA W → NdAt W ok x1 B (o + 4)) := fun W hW => (hat1).mono_below hW
      have HKN1 : Hid (KnR ok wA x1) := HK.out x1 (by simp)
      obtain ⟨t1, ht1⟩ : ∃ t, tstR (-1) x1 = t := ⟨_, rfl⟩
      have HT1 := Lib.hid ht1
      rw [ht1] at HR2
      clear ht1 hat1
      clear hrw HR HROW HK
      obtain ⟨k0, nm0, z0, kk0, cc0, p0, e0, y00, y01, y02, y03, hk0⟩ := ((HAT0.out w2 HB2.out)).val
      have c0 := (HKN0.out).2.2.1 (.agg #[.int .i64 k0, .string ⟨nm0.toArray⟩, .slice z0 kk0.length cc0, .int .i64 p0]) w2 HB2.out (by rw [e0]; exact ⟨z0, cc0, rfl, hk0⟩)
      simp only [List.append_toArray, List.cons_append, List.nil_append] at c0
      rw [HT0.out] at c0
      clear hk0 e0
      go_wp2_with fail
      refine c0.mono ?_
      clear c0
      rintro e w3 ⟨rfl, hw3⟩
      have Hw3 := Lib.hid (HB2.out.trans (hw3.mono HB2.out.size))
      obtain ⟨b0, b1, b2, b3⟩ := B0.out.below Hw3.out
      clear hw3 y00 y01 y02 y03
      cases t0
      · have HR3 : Hid (R = false) := by
          show R = false
          rw [HR2.out]
          simp
        clear HR2
        go_wp2_with fail
        go_ret
        exact ⟨by rw [HR3.out]; rfl, tr HA.out Hw3.out⟩
      · have HR3 : Hid (R = t1) := by
          show R = t1
          rw [HR2.out]
          simp
        clear HR2
        obtain ⟨k1, nm1, z1, kk1, cc1, p1, e1, y10, y11, y12, y13, hk1⟩ := ((HAT1.out w3 Hw3.out)).val
        have c1 := (HKN1.out).1 (.agg #[.int .i64 k1, .string ⟨nm1.toArray⟩, .slice z1 kk1.length cc1, .int .i64 p1]) w3 Hw3.out (by rw [e1]; exact ⟨z1, cc1, rfl, hk1⟩)
        simp only [List.append_toArray, List.cons_append, List.nil_append] at c1
        rw [HT1.out] at c1
        clear hk1 e1
        go_wp2_with fail
        refine c1.mono ?_
        clear c1
        rintro e w4 ⟨rfl, hw4⟩
        have Hw4 := Lib.hid (Hw3.out.trans (hw4.mono Hw3.out.size))
        obtain ⟨b0, b1, b2, b3⟩ := B0.out.below Hw4.out
        clear hw4 y10 y11 y12 y13
        go_wp2_with fail
        go_ret
        exact ⟨by rw [HR3.out]; rfl, tr HA.out Hw4.out⟩
    · have Q : ((m : Int) == 2) = false := beq_eq_false_iff_ne.2 (by omega)
      have HR2 : Hid (R = false) := by
        show R = false
        rw [HR.out]
        cases hs : shR [4, -1] kids
        · rfl
        · have h1 := shR_len _ _ hs
          have h2 := HL.out
          simp at h1
          omega
      clear HR hl
      go_wp2_with fail
      go_ret
      exact ⟨by rw [HR2.out]; rfl, tr HA.out HB2.out⟩
end
end Go.Proofs.YtpbkeamjdolpgaaGreatDoor
namespace Go.Proofs.YtpbkeamjdolpgaaGreatDoor
open Go.RowKit Go.Lib Go.Shelf Go.Sort

theorem ret_node_b {R : Ending → World → Prop} {fn : Func} {p q : Tmp} (hr : fn.results = #[.cell p 53, .tmp q]) {a : Act} {w : World} {g : Nat} {v0 v1 v2 v3 v : Value} (hp : a.tmps.getD p undef = .pointer (some ⟨g, 0, none⟩)) (hq : a.tmps.getD q undef = v) (hd : a.defers = [])
    (c0 : w.cell? ⟨g, 0, none⟩ = some v0) (c1 : w.cell? ⟨g, 1, none⟩ = some v1) (c2 : w.cell? ⟨g, 2, none⟩ = some v2) (c3 : w.cell? ⟨g, 3, none⟩ = some v3) (h : R (.returned (.tuple #[.agg #[v0, v1, v2, v3], v])) w) : bodyPost Tryz.prog fn R .ret a w := by
  have hp' : a.tmps[p]?.getD undef = .pointer (some ⟨g, 0, none⟩) := by simpa using hp
  have hq' : a.tmps[q]?.getD undef = v := by simpa using hq
  exact bodyPost_ret (v := .tuple #[.agg #[v0, v1, v2, v3], v]) (by simp [results, hr, hp', hq', go_sem, c0, c1, c2, c3]) hd h
theorem set4_other {w : World} {b q : Nat} {u0 u1 u2 u3 : Value} (h : q ≠ b) : ((((w.setCell ⟨b, 0, none⟩ u0).setCell ⟨b, 1, none⟩ u1).setCell ⟨b, 2, none⟩ u2).setCell ⟨b, 3, none⟩ u3).heap[q]? = w.heap[q]? := by
  rw [Below.heap_setCell _ _ _ _ h, Below.heap_setCell _ _ _ _ h, Below.heap_setCell _ _ _ _ h, Below.heap_setCell _ _ _ _ h]
theorem set4_below {a w : World} {B b : Nat} {u0 u1 u2 u3 : Value} (h : Below B a w) (hb : B ≤ b) : Below B a ((((w.setCell ⟨b, 0, none⟩ u0).setCell ⟨b, 1, none⟩ u1).setCell ⟨b, 2, none⟩ u2).setCell ⟨b, 3, none⟩ u3) :=
  (((h.setCell (p := ⟨b, 0, none⟩) hb _).setCell (p := ⟨b, 1, none⟩) hb _).setCell (p := ⟨b, 2, none⟩) hb _).setCell (p := ⟨b, 3, none⟩) hb _
def RDeepEnd (ok : Nat → Prop) (R : Option Nd) (w : World) (e : Ending) (w' : World) : Prop :=
  Below w.heap.size w w' ∧ ((R = none ∧ e = .returned (.tuple #[.agg #[.int .i64 0, .string ⟨#[]⟩, .slice none 0 0, .int .i64 0], .bool false])) ∨ ∃ x v, R = some x ∧ e = .returned (.tuple #[v, .bool true]) ∧ NdVal w' ok x v)
set_option maxHeartbeats 4000000 in
set_option maxRecDepth 100000 in
theorem rdeep_any (b0 : Nat) : ∀ (N : Nat) (l : List Nd), szL l < N → szL l < 2 ^ 40 → ∀ (d : Nat), d ≤ 65 → ∀ (y : Option Addr) (c : Nat) (w : World), b0 ≤ w.heap.size → NdRow w (fun k => k < b0) l y →
    Calls Tryz.prog 46 #[.slice y l.length c, .int .i64 d] w (RDeepEnd (fun k => k < b0) (deepL l d) w)
  | 0, _, h, _, _, _, _, _, _, _, _ => by omega
  | N + 1, l, hN, hw, d, hd, y, c, w, hb0, hrow => by
    have ih := rdeep_any b0 N
    have hl := len_szL l
    obtain ⟨R, hR⟩ : ∃ R, deepL l d = R := ⟨_, rfl⟩
    rw [hR]
    obtain ⟨n, hn⟩ : ∃ n, l.length = n := ⟨_, rfl⟩
    have HN := Lib.hid hn
    have HR := Lib.hid hR
    have HROW := Lib.hid hrow
    have HSZ := Lib.hid hN
    have HW := Lib.hid hw
    have HIH := Lib.hid ih
    have HB0 := Lib.hid hb0
    have hnn : n < 2 ^ 40 := by omega
    rw [hn]
    have Qd1 : IntKind.i64.wrap ((d : Int) + 1) = (d : Int) + 1 := IntWalk.i64_in _ (by omega)
    clear hN hw hrow hR hn ih hl hb0
    go_enter Tryz.func46, Tryz.ntmps46
    go_wp2_with fail
    have hA : Below w.heap.size w (w.alloc (.cells #[.int .i64 0, .string ⟨#[]⟩, .slice none 0 0, .int .i64 0] 53)) := (Below.refl _ _).alloc (Nat.le_refl _) _
    have HBX := Lib.hid (Box4.new w (.int .i64 0) (.string ⟨#[]⟩) (.slice none 0 0) (.int .i64 0))
    have HA := Lib.hid hA
    clear hA
    generalize hbx : w.heap.size = bx at *
    go_loopg [6] n (fun gf v wx => ∃ i : Nat, v = .int .i64 i ∧ i + gf = n ∧ Below bx w wx ∧ Box4 wx bx (.int .i64 0) (.string ⟨#[]⟩) (.slice none 0 0) (.int .i64 0) ∧ Hid (deepL (l.drop i) d = R))
    case atStart => exact ⟨0, rfl, by omega, HA.out, HBX.out, HR⟩
    case round =>
      obtain ⟨i, rfl, hi, hb, hbox, hS⟩ := hrel
      obtain ⟨e0, e1, e2, e3, ef⟩ := hbox.facts
      have hbs : bx < wr.heap.size := World.block_lt_of_cell? wr _ e0
      have hRW : ∀ W, Below bx w W → NdRow W (fun k => k < b0) l y := fun W h => HROW.out.below (hbx.symm ▸ h)
      by_cases hlt : i < n
      · obtain ⟨x, hx⟩ : ∃ x, l[i]? = some x := ⟨l[i]'(by have := HN.out; omega), List.getElem?_eq_getElem _⟩
        have hS2 := hS.out
        rw [deepL_drop hx] at hS2
        obtain ⟨B, o, rfl, hat⟩ := (hRW wr hb).at_ hx
        obtain ⟨k, nm, kids, p⟩ := x
        have HAT : Hid (∀ W, Below bx w W → ∃ c', W.cell? ⟨B, o + i * 4 + 2, none⟩ = some c' ∧ ∃ y' cc, c' = .slice y' kids.length cc ∧ NdRow W (fun k => k < b0) kids y') := fun W h => by
          obtain ⟨B', o', h1, h2⟩ := (hRW W h).at_ hx
          cases h1
          obtain ⟨_, _, _, _, y', cc, h3, h4⟩ := h2
          exact ⟨_, h3, y', cc, rfl, h4⟩
        obtain ⟨hok, x0, x1, x3, y', c', x2, hk⟩ := hat
        have hks := kids_lt hx
        have hlt' : (i : Int) < (n : Int) := by omega
        have Qi1 : IntKind.i64.wrap ((i : Int) + 1) = (i : Int) + 1 := IntWalk.i64_in _ (by omega)
        by_cases hd64 : 64 < d
        · have hd' : (64 : Int) < (d : Int) := by omega
          have HS : Hid (R = some (.mk k nm kids p)) := by
            show R = _
            rw [← hS2, if_pos hd64]
          have HX2 := Lib.hid x2
          have HKD := Lib.hid hk
          clear hS hS2 hx hks hRW hok hk
          go_wp2_with fail
          have hF := (hbox.set4 (u0 := .int .i64 k) (u1 := .string ⟨nm.toArray⟩) (u2 := .slice y' kids.length c') (u3 := .int .i64 p)).facts
          exact ret_node_b rfl rfl rfl rfl hF.1 hF.2.1 hF.2.2.1 hF.2.2.2.1 ⟨by rw [hbx]; exact set4_below hb (Nat.le_refl _), .inr ⟨_, _, HS.out, rfl, y', c', rfl, NdRow.mono (fun _ h _ => h) (fun q hq _ => set4_other (by have := HB0.out; omega)) _ _ HKD.out⟩⟩
        · have hd' : ¬ (64 : Int) < (d : Int) := by omega
          have c2 : Calls Tryz.prog 46 #[.slice y' kids.length c', .int .i64 ((d : Int) + 1)] wr (RDeepEnd (fun k => k < b0) (deepL kids (d + 1)) wr) := HIH.out kids (by have := HSZ.out; omega) (by have := HW.out; omega) (d + 1) (by omega) y' c' wr (by have := HB0.out; omega) hk
          have HS : Hid (R = match deepL kids (d + 1) with
            | some y => some y
            | none => deepL (l.drop (i + 1)) d) := by
            show R = _
            rw [← hS2, if_neg hd64]
            rfl
          have HBOX := Lib.hid hbox
          have HBW := Lib.hid hb
          clear hS hS2 hx hks hRW hok hk hbox HAT e0 e1 e2 e3 ef
          go_wp2_with fail
          refine c2.mono ?_
          clear c2
          rintro e w2 ⟨hb2, ⟨hr, rfl⟩ | ⟨x', v, hr, rfl, hv⟩⟩
          · have HS4 : Hid (deepL (l.drop (i + 1)) d = R) := by
              have := HS.out
              rw [hr] at this
              exact this.symm
            have HBX2 := Lib.hid ((HBOX.out.below hb2).alloc (.cells #[.int .i64 0, .string ⟨#[]⟩, .slice none 0 0, .int .i64 0] 53))
            have HB2 := Lib.hid ((HBW.out.trans (hb2.mono (by omega))).alloc (by have := hb2.size; omega) (.cells #[.int .i64 0, .string ⟨#[]⟩, .slice none 0 0, .int .i64 0] 53))
            clear hr hb2 HS
            go_wp2_with fail
            go_roundg (gk - 1)
            case measure => omega
            case rel => exact ⟨i + 1, rfl, by omega, HB2.out, HBX2.out, HS4⟩
          · obtain ⟨k', nm', m', p'⟩ := x'
            obtain ⟨y2, c2, rfl, hrow2⟩ := hv
            have HS4 : Hid (R = some (.mk k' nm' m' p')) := by
              have := HS.out
              rw [hr] at this
              exact this
            have HBX2 := Lib.hid ((HBOX.out.below hb2).alloc (.cells #[.int .i64 k', .string ⟨nm'.toArray⟩, .slice y2 m'.length c2, .int .i64 p'] 53))
            have HB2 := Lib.hid ((HBW.out.trans (hb2.mono (by omega))).alloc (by have := hb2.size; omega) (.cells #[.int .i64 k', .string ⟨nm'.toArray⟩, .slice y2 m'.length c2, .int .i64 p'] 53))
            have HR2 := Lib.hid (hrow2.below ((Below.refl _ _).alloc (Nat.le_refl _) (.cells #[.int .i64 k', .string ⟨nm'.toArray⟩, .slice y2 m'.length c2, .int .i64 p'] 53)))
            obtain ⟨d0, d1, d2, d3, df⟩ := HBX2.out.facts
            clear hr hb2 HS hrow2
            go_wp2_with fail
            have hF := (HBX2.out.set4 (u0 := .int .i64 k') (u1 := .string ⟨nm'.toArray⟩) (u2 := .slice y2 m'.length c2) (u3 := .int .i64 p')).facts
            exact ret_node_b rfl rfl rfl rfl hF.1 hF.2.1 hF.2.2.1 hF.2.2.2.1 ⟨by rw [hbx]; exact set4_below HB2.out (Nat.le_refl _), .inr ⟨_, _, HS4.out, rfl, y2, c2, rfl, NdRow.mono (fun _ h _ => h) (fun q hq _ => set4_other (by have := HB0.out; omega)) _ _ HR2.out⟩⟩
      · have hS2 := hS.out
        rw [List.drop_of_length_le (by have := HN.out; omega)] at hS2
        have HS : Hid (R = none) := hS2.symm
        have hlt' : ¬ (i : Int) < (n : Int) := by omega
        clear hS hS2 hRW
        go_wp2_with fail
        have hF := (hbox.set4 (u0 := .int .i64 0) (u1 := .string ⟨#[]⟩) (u2 := .slice none 0 0) (u3 := .int .i64 0)).facts
        exact ret_node_b rfl rfl rfl rfl hF.1 hF.2.1 hF.2.2.1 hF.2.2.2.1 ⟨by rw [hbx]; exact set4_below hb (Nat.le_refl _), .inl ⟨HS.out, rfl⟩⟩
end Go.Proofs.YtpbkeamjdolpgaaGreatDoor
namespace Go.Proofs.YtpbkeamjdolpgaaGreatDoor
open Go.RowKit Go.Lib Go.Shelf Go.Sort

section
variable (ok : Nat → Prop) (w0 : World) (n : List UInt8) (kids : List Nd) (p : Int) (hw : wtL kids + n.length < 2 ^ 40) (hG : Gl w0) (h : ∀ x ∈ kids, KnR ok w0 x)
set_option maxHeartbeats 4000000 in
set_option maxRecDepth 100000 in
include hw hG h in
theorem rst5_any : OneQ 101 [] ok stR w0 (.mk 5 n kids p) := by
  intro v w1 hb hv
  obtain ⟨y, cv, rfl, hrow⟩ := hv
  generalize cv.val = c
  clear cv
  have hlen := len_wtL kids
  have hE : stR (.mk 5 n kids p) = (plainR n && shR [-1, 0] kids) := by
    rw [stR_eq, if_neg (by decide), if_neg (by decide), if_neg (by decide), if_neg (by decide), if_pos rfl]
  obtain ⟨R, hR⟩ : ∃ R, stR (.mk 5 n kids p) = R := ⟨_, rfl⟩
  rw [hR] at hE ⊢
  have HR := Lib.hid hE
  show Calls _ _ _ _ (Yes _ w1)
  simp only [List.append_toArray, List.cons_append, List.nil_append]
  have hA : Below w1.heap.size w1 (w1.alloc (ndO 5 n y kids.length c p)) := (Below.refl _ _).alloc (Nat.le_refl _) _
  have B0 := Lib.hid (NdBox.new w1 5 n y kids.length c p)
  have HA := Lib.hid hA
  have HROW := Lib.hid (hrow.below hA)
  have HK : Hid (∀ x ∈ kids, KnR ok (w1.alloc (ndO 5 n y kids.length c p)) x) := fun x hx => ((h x hx).below hb).below hA
  have C1 : Hid (∀ W, Below (w1.alloc (ndO 5 n y kids.length c p)).heap.size (w1.alloc (ndO 5 n y kids.length c p)) W → Calls Tryz.prog 153 #[.string ⟨n.toArray⟩] W (Yes (plainR n) W)) := fun W hW =>
    rplain_any n W (by omega) (((hG.below hb).below hA).below hW)
  obtain ⟨m, hm⟩ : ∃ m, kids.length = m := ⟨_, rfl⟩
  rw [hm] at B0 HA C1 HROW HK ⊢
  have HL := Lib.hid hm
  unfold ndO at B0 HA C1 HROW HK
  obtain ⟨bp, hbp⟩ : ∃ b, plainR n = b := ⟨_, rfl⟩
  rw [hbp] at C1 HR
  clear hrow hb hA hw hE hG hm hlen hR hbp h
  go_enter Tryz.func101, Tryz.ntmps101
  go_wp2_with fail
  generalize w1.alloc (.cells #[.int .i64 5, .string ⟨n.toArray⟩, .slice y m c, .int .i64 p] 53) = wA at *

  refine (C1.out _ (Below.refl _ _)).mono ?_
  rintro e w2 ⟨rfl, hb2⟩
  obtain ⟨b0, b1, b2, b3⟩ := B0.out.below hb2
  have HB2 := Lib.hid hb2
  clear C1 hb2
  cases bp
  · have HR2 : Hid (R = false) := by
      show R = false
      rw [HR.out]
      simp
    clear HR
    go_wp2_with fail
    go_ret
    exact ⟨by rw [HR2.out]; rfl, tr HA.out HB2.out⟩
  · by_cases hl : m = 2
    · subst hl
      obtain ⟨x0, x1, rfl⟩ := len_two HL.out
      have HR2 : Hid (R = (tstR (-1) x0 && tstR 0 x1)) := by
        show R = _
        rw [HR.out]
        show (true && (tstR (-1) x0 && (tstR 0 x1 && true))) = _
        simp
      have hrw := HROW.out
      obtain ⟨B, o, rfl, hat0, hrw⟩ := hrw
      obtain ⟨B', o', e', hat1, hrw⟩ := hrw
      cases e'
      have HAT0 : Hid (∀ W, Below wA.heap.size wA W → NdAt W ok x0 B o) := fun W hW => (hat0).mono_below hW
      have HKN0 : Hid (KnR ok wA x0) := HK.out x0 (by simp)
      obtain ⟨t0, ht0⟩ : ∃ t, tstR (-1) x0 = t := ⟨_, rfl⟩
      have HT0 := Lib.hid ht0
      rw [ht0] at HR2
      clear ht0 hat0
      have HAT1 : Hid (∀ W, Below wA.heap.size wA W → NdAt W ok x1 B (o + 4)) := fun W hW => (hat1).mono_below hW
      have HKN1 : Hid (KnR ok wA x1) := HK.out x1 (by simp)
      obtain ⟨t1, ht1⟩ : ∃ t, tstR 0 x1 = t := ⟨_, rfl⟩
      have HT1 := Lib.hid ht1
      rw [ht1] at HR2
      clear ht1 hat1
      clear hrw HR HROW HK
      obtain ⟨k0, nm0, z0, kk0, cc0, p0, e0, y00, y01, y02, y03, hk0⟩ := ((HAT0.out w2 HB2.out)).val
      have c0 := (HKN0.out).1 (.agg #[.int .i64 k0, .string ⟨nm0.toArray⟩, .slice z0 kk0.length cc0, .int .i64 p0]) w2 HB2.out (by rw [e0]; exact ⟨z0, cc0, rfl, hk0⟩)
      simp only [List.append_toArray, List.cons_append, List.nil_append] at c0
      rw [HT0.out] at c0
      clear hk0 e0
      go_wp2_with fail
      refine c0.mono ?_
      clear c0
      rintro e w3 ⟨rfl, hw3⟩
      have Hw3 := Lib.hid (HB2.out.trans (hw3.mono HB2.out.size))
      obtain ⟨b0, b1, b2, b3⟩ := B0.out.below Hw3.out
      clear hw3 y00 y01 y02 y03
      cases t0
      · have HR3 : Hid (R = false) := by
          show R = false
          rw [HR2.out]
          simp
        clear HR2
        go_wp2_with fail
        go_ret
        exact ⟨by rw [HR3.out]; rfl, tr HA.out Hw3.out⟩
      · have HR3 : Hid (R = t1) := by
          show R = t1
          rw [HR2.out]
          simp
        clear HR2
        obtain ⟨k1, nm1, z1, kk1, cc1, p1, e1, y10, y11, y12, y13, hk1⟩ := ((HAT1.out w3 Hw3.out)).val
        have c1 := (HKN1.out).2.2.2 (.agg #[.int .i64 k1, .string ⟨nm1.toArray⟩, .slice z1 kk1.length cc1, .int .i64 p1]) w3 Hw3.out (by rw [e1]; exact ⟨z1, cc1, rfl, hk1⟩)
        simp only [List.append_toArray, List.cons_append, List.nil_append] at c1
        rw [HT1.out] at c1
        clear hk1 e1
        go_wp2_with fail
        refine c1.mono ?_
        clear c1
        rintro e w4 ⟨rfl, hw4⟩
        have Hw4 := Lib.hid (Hw3.out.trans (hw4.mono Hw3.out.size))
        obtain ⟨b0, b1, b2, b3⟩ := B0.out.below Hw4.out
        clear hw4 y10 y11 y12 y13
        go_wp2_with fail
        go_ret
        exact ⟨by rw [HR3.out]; rfl, tr HA.out Hw4.out⟩
    · have Q : ((m : Int) == 2) = false := beq_eq_false_iff_ne.2 (by omega)
      have HR2 : Hid (R = false) := by
        show R = false
        rw [HR.out]
        cases hs : shR [-1, 0] kids
        · rfl
        · have h1 := shR_len _ _ hs
          have h2 := HL.out
          simp at h1
          omega
      clear HR hl
      go_wp2_with fail
      go_ret
      exact ⟨by rw [HR2.out]; rfl, tr HA.out HB2.out⟩

set_option maxHeartbeats 4000000 in
set_option maxRecDepth 100000 in
include hw hG in
theorem rstno_any (k : Int) (hk : k ≠ 6) (hP : plainR n = false) : OneQ 101 [] ok stR w0 (.mk k n kids p) := by
  intro v w1 hb hv
  obtain ⟨y, c, rfl, hrow⟩ := hv
  have hE : stR (.mk k n kids p) = false := by
    rw [stR_eq, if_neg hk, hP, Bool.false_and]
  rw [hE]
  show Calls _ _ _ _ (Yes _ w1)
  simp only [List.append_toArray, List.cons_append, List.nil_append]
  have hA : Below w1.heap.size w1 (w1.alloc (ndO k n y kids.length c p)) := (Below.refl _ _).alloc (Nat.le_refl _) _
  have HA := Lib.hid hA
  have c1 := rplain_any n _ (by omega) ((hG.below hb).below hA)
  rw [hP] at c1
  unfold ndO at c1
  have Q6 : (k != 6) = true := by simpa using hk
  clear hrow hb hA hE hk hP hw hG
  go_enter Tryz.func101, Tryz.ntmps101
  go_wp2_with fail
  refine c1.mono ?_
  clear c1
  rintro e w2 ⟨rfl, hb2⟩
  go_wp2_with fail
  go_ret
  exact ⟨rfl, tr HA.out hb2⟩

set_option maxHeartbeats 4000000 in
set_option maxRecDepth 100000 in
include hw hG in
theorem rstk_any (k : Int) (hk6 : k ≠ 6) (hk : k < 1 ∨ 3 < k) (hk5 : k ≠ 5) (hk7 : k ≠ 7) (hP : plainR n = true) : OneQ 101 [] ok stR w0 (.mk k n kids p) := by
  intro v w1 hb hv
  obtain ⟨y, c, rfl, hrow⟩ := hv
  have hE : stR (.mk k n kids p) = false := by
    rw [stR_eq, if_neg hk6, if_neg (by omega), if_neg (by omega), if_neg (by omega), if_neg hk5, if_neg hk7, Bool.and_false]
  rw [hE]
  show Calls _ _ _ _ (Yes _ w1)
  simp only [List.append_toArray, List.cons_append, List.nil_append]
  have hA : Below w1.heap.size w1 (w1.alloc (ndO k n y kids.length c p)) := (Below.refl _ _).alloc (Nat.le_refl _) _
  have HA := Lib.hid hA
  have B0 := Lib.hid (NdBox.new w1 k n y kids.length c p)
  have c1 := rplain_any n _ (by omega) ((hG.below hb).below hA)
  rw [hP] at c1
  unfold ndO at c1 B0
  have Q6 : (k != 6) = true := by simpa using hk6
  have Q1 : (k == 1) = false := beq_eq_false_iff_ne.2 (by omega)
  have Q2 : (k == 2) = false := beq_eq_false_iff_ne.2 (by omega)
  have Q3 : (k == 3) = false := beq_eq_false_iff_ne.2 (by omega)
  have Q5 : (k == 5) = false := beq_eq_false_iff_ne.2 hk5
  have Q66 : (k == 6) = false := beq_eq_false_iff_ne.2 hk6
  have Q7 : (k == 7) = false := beq_eq_false_iff_ne.2 hk7
  clear hrow hb hA hE hk hk6 hk5 hk7 hP hw hG
  go_enter Tryz.func101, Tryz.ntmps101
  go_wp2_with fail
  refine c1.mono ?_
  clear c1
  rintro e w2 ⟨rfl, hb2⟩
  obtain ⟨b0, b1, b2, b3⟩ := B0.out.below hb2
  go_wp2_with fail
  go_ret
  exact ⟨rfl, tr HA.out hb2⟩

set_option maxHeartbeats 4000000 in
set_option maxRecDepth 100000 in
include hw h in
theorem rst6_no (hno : n ≠ [] ∨ kids.length < 2 ∨ 3 < kids.length) : OneQ 101 [] ok stR w0 (.mk 6 n kids p) := by
  intro v w1 hb hv
  obtain ⟨y, cv, rfl, hrow⟩ := hv
  generalize cv.val = c
  clear cv
  have hlen := len_wtL kids
  have hE : stR (.mk 6 n kids p) = (n.isEmpty && shR (if kids.length = 2 then [-1, 0] else [-1, 0, 0]) kids) := by
    rw [stR_eq, if_pos rfl]
  obtain ⟨R, hR⟩ : ∃ R, stR (.mk 6 n kids p) = R := ⟨_, rfl⟩
  rw [hR] at hE ⊢
  have HR := Lib.hid hE
  show Calls _ _ _ _ (Yes _ w1)
  simp only [List.append_toArray, List.cons_append, List.nil_append]
  have hA : Below w1.heap.size w1 (w1.alloc (ndO 6 n y kids.length c p)) := (Below.refl _ _).alloc (Nat.le_refl _) _
  have B0 := Lib.hid (NdBox.new w1 6 n y kids.length c p)
  have HA := Lib.hid hA
  have HROW := Lib.hid (hrow.below hA)
  have HK : Hid (∀ x ∈ kids, KnR ok (w1.alloc (ndO 6 n y kids.length c p)) x) := fun x hx => ((h x hx).below hb).below hA
  obtain ⟨m, hm⟩ : ∃ m, kids.length = m := ⟨_, rfl⟩
  rw [hm] at HA HR hno ⊢
  have hm40 : m < 2 ^ 40 := by omega
  have HR2 : Hid (R = false) := by
    show R = false
    rw [HR.out]
    by_cases hq : n = []
    · cases hs : shR (if m = 2 then [-1, 0] else [-1, 0, 0]) kids
      · simp
      · have h1 := shR_len _ _ hs
        have : ¬ m = 2 := by
          rcases hno with h | h
          · exact absurd hq h
          · omega
        rw [if_neg this] at h1
        simp at h1
        rcases hno with h | h
        · exact absurd hq h
        · omega
    · simp [hq]
  unfold ndO at HA
  clear hrow hb hA hw hE hm hlen hR h HR HROW HK B0
  by_cases hq : n = []
  · subst hq
    have hno2 : m < 2 ∨ 3 < m := hno.resolve_left (fun h => h rfl)
    by_cases h2 : m < 2
    · have Q : (m : Int) < 2 := by omega
      clear hno hno2 h2
      go_enter Tryz.func101, Tryz.ntmps101
      go_wp2_with fail
      go_ret
      exact ⟨by rw [HR2.out]; rfl, HA.out⟩
    · have Q : ¬ (m : Int) < 2 := by omega
      have Q3 : (3 : Int) < (m : Int) := by omega
      clear hno hno2 h2
      go_enter Tryz.func101, Tryz.ntmps101
      go_wp2_with fail
      go_ret
      exact ⟨by rw [HR2.out]; rfl, HA.out⟩
  · have Q : (n != []) = true := by simpa using hq
    have Qb : (n == []) = false := str_ne hq
    clear hno hq
    go_enter Tryz.func101, Tryz.ntmps101
    go_wp2_with fail
    go_ret
    exact ⟨by rw [HR2.out]; rfl, HA.out⟩

set_option maxHeartbeats 4000000 in
set_option maxRecDepth 100000 in
include hw hG in
theorem rst7_no (hno : kids.length < 1 ∨ 2 < kids.length) : OneQ 101 [] ok stR w0 (.mk 7 n kids p) := by
  intro v w1 hb hv
  obtain ⟨y, cv, rfl, hrow⟩ := hv
  generalize cv.val = c
  clear cv
  have hlen := len_wtL kids
  have hE : stR (.mk 7 n kids p) = false := by
    rw [stR_eq, if_neg (by decide), if_neg (by decide), if_neg (by decide), if_neg (by decide), if_neg (by decide), if_pos rfl]
    have : shR (if kids.length = 1 then [8] else [8, 0]) kids = false := by
      cases hs : shR (if kids.length = 1 then [8] else [8, 0]) kids
      · rfl
      · have h1 := shR_len _ _ hs
        rw [if_neg (by omega)] at h1
        simp at h1
        omega
    rw [this, Bool.and_false]
  rw [hE]
  show Calls _ _ _ _ (Yes _ w1)
  simp only [List.append_toArray, List.cons_append, List.nil_append]
  have hA : Below w1.heap.size w1 (w1.alloc (ndO 7 n y kids.length c p)) := (Below.refl _ _).alloc (Nat.le_refl _) _
  have HA := Lib.hid hA
  have B0 := Lib.hid (NdBox.new w1 7 n y kids.length c p)
  have c1 := rplain_any n _ (by omega) ((hG.below hb).below hA)
  obtain ⟨m, hm⟩ : ∃ m, kids.length = m := ⟨_, rfl⟩
  rw [hm] at HA B0 c1 hno hlen ⊢
  have hm40 : m < 2 ^ 40 := by omega
  unfold ndO at c1 B0
  obtain ⟨bp, hbp⟩ : ∃ b, plainR n = b := ⟨_, rfl⟩
  rw [hbp] at c1
  clear hrow hb hA hE hw hG hm hbp hlen
  go_enter Tryz.func101, Tryz.ntmps101
  go_wp2_with fail
  refine c1.mono ?_
  clear c1
  rintro e w2 ⟨rfl, hb2⟩
  obtain ⟨b0, b1, b2, b3⟩ := B0.out.below hb2
  have HB2 := Lib.hid (tr HA.out hb2)
  clear hb2 B0
  cases bp
  · clear hno
    go_wp2_with fail
    go_ret
    exact ⟨rfl, HB2.out⟩
  · by_cases h1 : m < 1
    · have Q : (m : Int) < 1 := by omega
      clear hno h1
      go_wp2_with fail
      go_ret
      exact ⟨rfl, HB2.out⟩
    · have Q : ¬ (m : Int) < 1 := by omega
      have Q2 : (2 : Int) < (m : Int) := by omega
      clear hno h1
      go_wp2_with fail
      go_ret
      exact ⟨rfl, HB2.out⟩
end
section
variable (ok : Nat → Prop) (w0 : World) (n : List UInt8) (p : Int) (hG : Gl w0)
set_option maxHeartbeats 4000000 in
set_option maxRecDepth 100000 in
theorem rst6_two (x0 x1 : Nd) (h : ∀ x ∈ ([x0, x1] : List Nd), KnR ok w0 x) : OneQ 101 [] ok stR w0 (.mk 6 [] [x0, x1] p) := by
  intro v w1 hb hv
  obtain ⟨y, c, rfl, hrow⟩ := hv
  have hE : stR (.mk 6 [] [x0, x1] p) = (tstR (-1) x0 && tstR 0 x1) := by
    rw [stR_eq, if_pos rfl]
    show (true && (tstR (-1) x0 && (tstR 0 x1 && true))) = _
    simp
  obtain ⟨R, hR⟩ : ∃ R, stR (.mk 6 [] [x0, x1] p) = R := ⟨_, rfl⟩
  rw [hR] at hE ⊢
  have HR2 := Lib.hid hE
  show Calls _ _ _ _ (Yes _ w1)
  simp only [List.append_toArray, List.cons_append, List.nil_append]
  have hA : Below w1.heap.size w1 (w1.alloc (ndO 6 [] y 2 c p)) := (Below.refl _ _).alloc (Nat.le_refl _) _
  have B0 := Lib.hid (NdBox.new w1 6 [] y 2 c p)
  have HA := Lib.hid hA
  have hrw := hrow.below hA
  have HK : Hid (∀ x ∈ ([x0, x1] : List Nd), KnR ok (w1.alloc (ndO 6 [] y 2 c p)) x) := fun x hx => ((h x hx).below hb).below hA
  obtain ⟨B, o, rfl, hat0, hrw⟩ := hrw
  obtain ⟨B', o', e', hat1, hrw⟩ := hrw
  cases e'
  show Calls _ _ #[.agg #[.int .i64 6, .string ⟨([] : List UInt8).toArray⟩, .slice (some ⟨B, o, none⟩) 2 c, .int .i64 p]] _ _
  unfold ndO at B0 HA HK hat0 hat1
  obtain ⟨k0, nm0, z0, kk0, cc0, p0, e0, y00, y01, y02, y03, hk0⟩ := hat0.val
  have c0 := (HK.out x0 (by simp)).1 (.agg #[.int .i64 k0, .string ⟨nm0.toArray⟩, .slice z0 kk0.length cc0, .int .i64 p0]) _ (Below.refl _ _) (by rw [e0]; exact ⟨z0, cc0, rfl, hk0⟩)
  simp only [List.append_toArray, List.cons_append, List.nil_append] at c0
  clear hk0 e0
  clear hrw hrow hb hA hE hR h
  go_enter Tryz.func101, Tryz.ntmps101
  go_wp2_with fail
  generalize w1.alloc (.cells #[.int .i64 6, .string ⟨#[]⟩, .slice (some ⟨B, o, none⟩) 2 c, .int .i64 p] 53) = wA at *

  have HBA : Hid (Below wA.heap.size wA wA) := Below.refl _ _
  have HAT0 : Hid (∀ W, Below wA.heap.size wA W → NdAt W ok x0 B o) := fun W hW => hat0.mono_below hW
  have HKN0 : Hid (KnR ok wA x0) := HK.out x0 (by simp)
  obtain ⟨t0, ht0⟩ : ∃ t, tstR (-1) x0 = t := ⟨_, rfl⟩
  have HT0 := Lib.hid ht0
  rw [ht0] at HR2
  clear ht0 hat0
  have HAT1 : Hid (∀ W, Below wA.heap.size wA W → NdAt W ok x1 B (o + 4)) := fun W hW => hat1.mono_below hW
  have HKN1 : Hid (KnR ok wA x1) := HK.out x1 (by simp)
  obtain ⟨t1, ht1⟩ : ∃ t, tstR 0 x1 = t := ⟨_, rfl⟩
  have HT1 := Lib.hid ht1
  rw [ht1] at HR2
  clear ht1 hat1
  clear HK
  rw [HT0.out] at c0
  refine c0.mono ?_
  clear c0
  rintro e w3 ⟨rfl, hw3⟩
  have Hw3 := Lib.hid (HBA.out.trans (hw3.mono HBA.out.size))
  obtain ⟨b0, b1, b2, b3⟩ := B0.out.below Hw3.out
  clear hw3 y00 y01 y02 y03
  cases t0
  · have HR3 : Hid (R = false) := by
      show R = false
      rw [HR2.out]
      simp
    clear HR2
    go_wp2_with fail
    go_ret
    exact ⟨by rw [HR3.out]; rfl, tr HA.out Hw3.out⟩
  · have HR3 : Hid (R = t1) := by
      show R = t1
      rw [HR2.out]
      simp
    clear HR2
    obtain ⟨k1, nm1, z1, kk1, cc1, p1, e1, y10, y11, y12, y13, hk1⟩ := ((HAT1.out w3 Hw3.out)).val
    have c1 := (HKN1.out).2.2.2 (.agg #[.int .i64 k1, .string ⟨nm1.toArray⟩, .slice z1 kk1.length cc1, .int .i64 p1]) w3 Hw3.out (by rw [e1]; exact ⟨z1, cc1, rfl, hk1⟩)
    simp only [List.append_toArray, List.cons_append, List.nil_append] at c1
    rw [HT1.out] at c1
    clear hk1 e1
    go_wp2_with fail
    refine c1.mono ?_
    clear c1
    rintro e w4 ⟨rfl, hw4⟩
    have Hw4 := Lib.hid (Hw3.out.trans (hw4.mono Hw3.out.size))
    obtain ⟨b0, b1, b2, b3⟩ := B0.out.below Hw4.out
    clear hw4 y10 y11 y12 y13
    go_wp2_with fail
    go_ret
    exact ⟨by rw [HR3.out]; rfl, tr HA.out Hw4.out⟩

set_option maxHeartbeats 4000000 in
set_option maxRecDepth 100000 in
theorem rst6_three (x0 x1 x2 : Nd) (h : ∀ x ∈ ([x0, x1, x2] : List Nd), KnR ok w0 x) : OneQ 101 [] ok stR w0 (.mk 6 [] [x0, x1, x2] p) := by
  intro v w1 hb hv
  obtain ⟨y, c, rfl, hrow⟩ := hv
  have hE : stR (.mk 6 [] [x0, x1, x2] p) = (tstR (-1) x0 && tstR 0 x1 && tstR 0 x2) := by
    rw [stR_eq, if_pos rfl]
    show (true && (tstR (-1) x0 && (tstR 0 x1 && (tstR 0 x2 && true)))) = _
    simp [Bool.and_assoc]
  obtain ⟨R, hR⟩ : ∃ R, stR (.mk 6 [] [x0, x1, x2] p) = R := ⟨_, rfl⟩
  rw [hR] at hE ⊢
  have HR2 := Lib.hid hE
  show Calls _ _ _ _ (Yes _ w1)
  simp only [List.append_toArray, List.cons_append, List.nil_append]
  have hA : Below w1.heap.size w1 (w1.alloc (ndO 6 [] y 3 c p)) := (Below.refl _ _).alloc (Nat.le_refl _) _
  have B0 := Lib.hid (NdBox.new w1 6 [] y 3 c p)
  have HA := Lib.hid hA
  have hrw := hrow.below hA
  have HK : Hid (∀ x ∈ ([x0, x1, x2] : List Nd), KnR ok (w1.alloc (ndO 6 [] y 3 c p)) x) := fun x hx => ((h x hx).below hb).below hA
  obtain ⟨B, o, rfl, hat0, hrw⟩ := hrw
  obtain ⟨B', o', e', hat1, hrw⟩ := hrw
  cases e'
  obtain ⟨B', o', e', hat2, hrw⟩ := hrw
  cases e'
  show Calls _ _ #[.agg #[.int .i64 6, .string ⟨([] : List UInt8).toArray⟩, .slice (some ⟨B, o, none⟩) 3 c, .int .i64 p]] _ _
  unfold ndO at B0 HA HK hat0 hat1 hat2
  obtain ⟨k2, nm2, z2, kk2, cc2, p2, e2, y20, y21, y22, y23, hk2⟩ := hat2.val
  have c2 := (HK.out x2 (by simp)).2.2.2 (.agg #[.int .i64 k2, .string ⟨nm2.toArray⟩, .slice z2 kk2.length cc2, .int .i64 p2]) _ (Below.refl _ _) (by rw [e2]; exact ⟨z2, cc2, rfl, hk2⟩)
  simp only [List.append_toArray, List.cons_append, List.nil_append] at c2
  clear hk2 e2
  clear hrw hrow hb hA hE hR h
  go_enter Tryz.func101, Tryz.ntmps101
  go_wp2_with fail
  generalize w1.alloc (.cells #[.int .i64 6, .string ⟨#[]⟩, .slice (some ⟨B, o, none⟩) 3 c, .int .i64 p] 53) = wA at *

  have HBA : Hid (Below wA.heap.size wA wA) := Below.refl _ _
  have HAT0 : Hid (∀ W, Below wA.heap.size wA W → NdAt W ok x0 B o) := fun W hW => hat0.mono_below hW
  have HKN0 : Hid (KnR ok wA x0) := HK.out x0 (by simp)
  obtain ⟨t0, ht0⟩ : ∃ t, tstR (-1) x0 = t := ⟨_, rfl⟩
  have HT0 := Lib.hid ht0
  rw [ht0] at HR2
  clear ht0 hat0
  have HAT1 : Hid (∀ W, Below wA.heap.size wA W → NdAt W ok x1 B (o + 4)) := fun W hW => hat1.mono_below hW
  have HKN1 : Hid (KnR ok wA x1) := HK.out x1 (by simp)
  obtain ⟨t1, ht1⟩ : ∃ t, tstR 0 x1 = t := ⟨_, rfl⟩
  have HT1 := Lib.hid ht1
  rw [ht1] at HR2
  clear ht1 hat1
  have HAT2 : Hid (∀ W, Below wA.heap.size wA W → NdAt W ok x2 B (o + 8)) := fun W hW => hat2.mono_below hW
  have HKN2 : Hid (KnR ok wA x2) := HK.out x2 (by simp)
  obtain ⟨t2, ht2⟩ : ∃ t, tstR 0 x2 = t := ⟨_, rfl⟩
  have HT2 := Lib.hid ht2
  rw [ht2] at HR2
  clear ht2 hat2
  clear HK
  rw [HT2.out] at c2
  refine c2.mono ?_
  clear c2
  rintro e w3 ⟨rfl, hw3⟩
  have Hw3 := Lib.hid (HBA.out.trans (hw3.mono HBA.out.size))
  obtain ⟨b0, b1, b2, b3⟩ := B0.out.below Hw3.out
  clear hw3 y20 y21 y22 y23
  cases t2
  · have HR3 : Hid (R = false) := by
      show R = false
      rw [HR2.out]
      simp
    clear HR2
    go_wp2_with fail
    go_ret
    exact ⟨by rw [HR3.out]; rfl, tr HA.out Hw3.out⟩
  · have HR3 : Hid (R = (t0 && t1)) := by
      show R = (t0 && t1)
      rw [HR2.out]
      simp
    clear HR2
    obtain ⟨k0, nm0, z0, kk0, cc0, p0, e0, y00, y01, y02, y03, hk0⟩ := ((HAT0.out w3 Hw3.out)).val
    have c0 := (HKN0.out).1 (.agg #[.int .i64 k0, .string ⟨nm0.toArray⟩, .slice z0 kk0.length cc0, .int .i64 p0]) w3 Hw3.out (by rw [e0]; exact ⟨z0, cc0, rfl, hk0⟩)
    simp only [List.append_toArray, List.cons_append, List.nil_append] at c0
    rw [HT0.out] at c0
    clear hk0 e0
    go_wp2_with fail
    refine c0.mono ?_
    clear c0
    rintro e w4 ⟨rfl, hw4⟩
    have Hw4 := Lib.hid (Hw3.out.trans (hw4.mono Hw3.out.size))
    obtain ⟨b0, b1, b2, b3⟩ := B0.out.below Hw4.out
    clear hw4 y00 y01 y02 y03
    cases t0
    · have HR4 : Hid (R = false) := by
        show R = false
        rw [HR3.out]
        simp
      clear HR3
      go_wp2_with fail
      go_ret
      exact ⟨by rw [HR4.out]; rfl, tr HA.out Hw4.out⟩
    · have HR4 : Hid (R = t1) := by
        show R = t1
        rw [HR3.out]
        simp
      clear HR3
      obtain ⟨k1, nm1, z1, kk1, cc1, p1, e1, y10, y11, y12, y13, hk1⟩ := ((HAT1.out w4 Hw4.out)).val
      have c1 := (HKN1.out).2.2.2 (.agg #[.int .i64 k1, .string ⟨nm1.toArray⟩, .slice z1 kk1.length cc1, .int .i64 p1]) w4 Hw4.out (by rw [e1]; exact ⟨z1, cc1, rfl, hk1⟩)
      simp only [List.append_toArray, List.cons_append, List.nil_append] at c1
      rw [HT1.out] at c1
      clear hk1 e1
      go_wp2_with fail
      refine c1.mono ?_
      clear c1
      rintro e w5 ⟨rfl, hw5⟩
      have Hw5 := Lib.hid (Hw4.out.trans (hw5.mono Hw4.out.size))
      obtain ⟨b0, b1, b2, b3⟩ := B0.out.below Hw5.out
      clear hw5 y10 y11 y12 y13
      go_wp2_with fail
      go_ret
      exact ⟨by rw [HR4.out]; rfl, tr HA.out Hw5.out⟩

set_option maxHeartbeats 4000000 in
set_option maxRecDepth 100000 in
include hG in
theorem rst7_one (x0 : Nd) (h : ∀ x ∈ ([x0] : List Nd), KnR ok w0 x) (hn : n.length < 2 ^ 40) : OneQ 101 [] ok stR w0 (.mk 7 n [x0] p) := by
  intro v w1 hb hv
  obtain ⟨y, c, rfl, hrow⟩ := hv
  have hE : stR (.mk 7 n [x0] p) = (plainR n && tstR 8 x0) := by
    rw [stR_eq, if_neg (by decide), if_neg (by decide), if_neg (by decide), if_neg (by decide), if_neg (by decide), if_pos rfl]
    show (plainR n && (tstR 8 x0 && true)) = _
    simp
  obtain ⟨R, hR⟩ : ∃ R, stR (.mk 7 n [x0] p) = R := ⟨_, rfl⟩
  rw [hR] at hE ⊢
  have HR2 := Lib.hid hE
  show Calls _ _ _ _ (Yes _ w1)
  simp only [List.append_toArray, List.cons_append, List.nil_append]
  have hA : Below w1.heap.size w1 (w1.alloc (ndO 7 n y 1 c p)) := (Below.refl _ _).alloc (Nat.le_refl _) _
  have B0 := Lib.hid (NdBox.new w1 7 n y 1 c p)
  have HA := Lib.hid hA
  have hrw := hrow.below hA
  have HK : Hid (∀ x ∈ ([x0] : List Nd), KnR ok (w1.alloc (ndO 7 n y 1 c p)) x) := fun x hx => ((h x hx).below hb).below hA
  have C1 : Hid (∀ W, Below (w1.alloc (ndO 7 n y 1 c p)).heap.size (w1.alloc (ndO 7 n y 1 c p)) W → Calls Tryz.prog 153 #[.string ⟨n.toArray⟩] W (Yes (plainR n) W)) := fun W hW =>
    rplain_any n W (by omega) (((hG.below hb).below hA).below hW)
  obtain ⟨B, o, rfl, hat0, hrw⟩ := hrw
  show Calls _ _ #[.agg #[.int .i64 7, .string ⟨(n : List UInt8).toArray⟩, .slice (some ⟨B, o, none⟩) 1 c, .int .i64 p]] _ _
  unfold ndO at B0 HA HK hat0 C1
  obtain ⟨bp, hbp⟩ : ∃ b, plainR n = b := ⟨_, rfl⟩
  rw [hbp] at C1 HR2
  clear hrw hrow hb hA hE hR h hbp hG hn
  go_enter Tryz.func101, Tryz.ntmps101
  go_wp2_with fail
  generalize w1.alloc (.cells #[.int .i64 7, .string ⟨n.toArray⟩, .slice (some ⟨B, o, none⟩) 1 c, .int .i64 p] 53) = wA at *

  have HAT0 : Hid (∀ W, Below wA.heap.size wA W → NdAt W ok x0 B o) := fun W hW => hat0.mono_below hW
  have HKN0 : Hid (KnR ok wA x0) := HK.out x0 (by simp)
  obtain ⟨t0, ht0⟩ : ∃ t, tstR 8 x0 = t := ⟨_, rfl⟩
  have HT0 := Lib.hid ht0
  rw [ht0] at HR2
  clear ht0 hat0
  clear HK
  refine (C1.out _ (Below.refl _ _)).mono ?_
  rintro e w2 ⟨rfl, hb2⟩
  obtain ⟨b0, b1, b2, b3⟩ := B0.out.below hb2
  have HB2 := Lib.hid hb2
  clear C1 hb2
  cases bp
  · have HR3 : Hid (R = false) := by
      show R = false
      rw [HR2.out]
      simp
    clear HR2
    go_wp2_with fail
    go_ret
    exact ⟨by rw [HR3.out]; rfl, tr HA.out HB2.out⟩
  · have HR3 : Hid (R = t0) := by
      show R = t0
      rw [HR2.out]
      simp
    clear HR2
    obtain ⟨k0, nm0, z0, kk0, cc0, p0, e0, y00, y01, y02, y03, hk0⟩ := ((HAT0.out w2 HB2.out)).val
    have c0 := (HKN0.out).2.1 (.agg #[.int .i64 k0, .string ⟨nm0.toArray⟩, .slice z0 kk0.length cc0, .int .i64 p0]) w2 HB2.out (by rw [e0]; exact ⟨z0, cc0, rfl, hk0⟩)
    simp only [List.append_toArray, List.cons_append, List.nil_append] at c0
    rw [HT0.out] at c0
    clear hk0 e0
    go_wp2_with fail
    refine c0.mono ?_
    clear c0
    rintro e w3 ⟨rfl, hw3⟩
    have Hw3 := Lib.hid (HB2.out.trans (hw3.mono HB2.out.size))
    obtain ⟨b0, b1, b2, b3⟩ := B0.out.below Hw3.out
    clear hw3 y00 y01 y02 y03
    go_wp2_with fail
    go_ret
    exact ⟨by rw [HR3.out]; rfl, tr HA.out Hw3.out⟩

set_option maxHeartbeats 4000000 in
set_option maxRecDepth 100000 in
include hG in
theorem rst7_two (x0 x1 : Nd) (h : ∀ x ∈ ([x0, x1] : List Nd), KnR ok w0 x) (hn : n.length < 2 ^ 40) : OneQ 101 [] ok stR w0 (.mk 7 n [x0, x1] p) := by
  intro v w1 hb hv
  obtain ⟨y, c, rfl, hrow⟩ := hv
  have hE : stR (.mk 7 n [x0, x1] p) = (plainR n && (tstR 8 x0 && tstR 0 x1)) := by
    rw [stR_eq, if_neg (by decide), if_neg (by decide), if_neg (by decide), if_neg (by decide), if_neg (by decide), if_pos rfl]
    show (plainR n && (tstR 8 x0 && (tstR 0 x1 && true))) = _
    simp
  obtain ⟨R, hR⟩ : ∃ R, stR (.mk 7 n [x0, x1] p) = R := ⟨_, rfl⟩
  rw [hR] at hE ⊢
  have HR2 := Lib.hid hE
  show Calls _ _ _ _ (Yes _ w1)
  simp only [List.append_toArray, List.cons_append, List.nil_append]
  have hA : Below w1.heap.size w1 (w1.alloc (ndO 7 n y 2 c p)) := (Below.refl _ _).alloc (Nat.le_refl _) _
  have B0 := Lib.hid (NdBox.new w1 7 n y 2 c p)
  have HA := Lib.hid hA
  have hrw := hrow.below hA
  have HK : Hid (∀ x ∈ ([x0, x1] : List Nd), KnR ok (w1.alloc (ndO 7 n y 2 c p)) x) := fun x hx => ((h x hx).below hb).below hA
  have C1 : Hid (∀ W, Below (w1.alloc (ndO 7 n y 2 c p)).heap.size (w1.alloc (ndO 7 n y 2 c p)) W → Calls Tryz.prog 153 #[.string ⟨n.toArray⟩] W (Yes (plainR n) W)) := fun W hW =>
    rplain_any n W (by omega) (((hG.below hb).below hA).below hW)
  obtain ⟨B, o, rfl, hat0, hrw⟩ := hrw
  obtain ⟨B', o', e', hat1, hrw⟩ := hrw
  cases e'
  show Calls _ _ #[.agg #[.int .i64 7, .string ⟨(n : List UInt8).toArray⟩, .slice (some ⟨B, o, none⟩) 2 c, .int .i64 p]] _ _
  unfold ndO at B0 HA HK hat0 hat1 C1
  obtain ⟨bp, hbp⟩ : ∃ b, plainR n = b := ⟨_, rfl⟩
  rw [hbp] at C1 HR2
  clear hrw hrow hb hA hE hR h hbp hG hn
  go_enter Tryz.func101, Tryz.ntmps101
  go_wp2_with fail
  generalize w1.alloc (.cells #[.int .i64 7, .string ⟨n.toArray⟩, .slice (some ⟨B, o, none⟩) 2 c, .int .i64 p] 53) = wA at *

  have HAT0 : Hid (∀ W, Below wA.heap.size wA W → NdAt W ok x0 B o) := fun W hW => hat0.mono_below hW
  have HKN0 : Hid (KnR ok wA x0) := HK.out x0 (by simp)
  obtain ⟨t0, ht0⟩ : ∃ t, tstR 8 x0 = t := ⟨_, rfl⟩
  have HT0 := Lib.hid ht0
  rw [ht0] at HR2
  clear ht0 hat0
  have HAT1 : Hid (∀ W, Below wA.heap.size wA W → NdAt W ok x1 B (o + 4)) := fun W hW => hat1.mono_below hW
  have HKN1 : Hid (KnR ok wA x1) := HK.out x1 (by simp)
  obtain ⟨t1, ht1⟩ : ∃ t, tstR 0 x1 = t := ⟨_, rfl⟩
  have HT1 := Lib.hid ht1
  rw [ht1] at HR2
  clear ht1 hat1
  clear HK
  refine (C1.out _ (Below.refl _ _)).mono ?_
  rintro e w2 ⟨rfl, hb2⟩
  obtain ⟨b0, b1, b2, b3⟩ := B0.out.below hb2
  have HB2 := Lib.hid hb2
  clear C1 hb2
  cases bp
  · have HR3 : Hid (R = false) := by
      show R = false
      rw [HR2.out]
      simp
    clear HR2
    go_wp2_with fail
    go_ret
    exact ⟨by rw [HR3.out]; rfl, tr HA.out HB2.out⟩
  · obtain ⟨k1, nm1, z1, kk1, cc1, p1, e1, y10, y11, y12, y13, hk1⟩ := ((HAT1.out w2 HB2.out)).val
    have c1 := (HKN1.out).2.2.2 (.agg #[.int .i64 k1, .string ⟨nm1.toArray⟩, .slice z1 kk1.length cc1, .int .i64 p1]) w2 HB2.out (by rw [e1]; exact ⟨z1, cc1, rfl, hk1⟩)
    simp only [List.append_toArray, List.cons_append, List.nil_append] at c1
    rw [HT1.out] at c1
    clear hk1 e1
    go_wp2_with fail
    refine c1.mono ?_
    clear c1
    rintro e w3 ⟨rfl, hw3⟩
    have Hw3 := Lib.hid (HB2.out.trans (hw3.mono HB2.out.size))
    obtain ⟨b0, b1, b2, b3⟩ := B0.out.below Hw3.out
    clear hw3 y10 y11 y12 y13
    cases t1
    · have HR3 : Hid (R = false) := by
        show R = false
        rw [HR2.out]
        simp
      clear HR2
      go_wp2_with fail
      go_ret
      exact ⟨by rw [HR3.out]; rfl, tr HA.out Hw3.out⟩
    · have HR3 : Hid (R = t0) := by
        show R = t0
        rw [HR2.out]
        simp
      clear HR2
      obtain ⟨k0, nm0, z0, kk0, cc0, p0, e0, y00, y01, y02, y03, hk0⟩ := ((HAT0.out w3 Hw3.out)).val
      have c0 := (HKN0.out).2.1 (.agg #[.int .i64 k0, .string ⟨nm0.toArray⟩, .slice z0 kk0.length cc0, .int .i64 p0]) w3 Hw3.out (by rw [e0]; exact ⟨z0, cc0, rfl, hk0⟩)
      simp only [List.append_toArray, List.cons_append, List.nil_append] at c0
      rw [HT0.out] at c0
      clear hk0 e0
      go_wp2_with fail
      refine c0.mono ?_
      clear c0
      rintro e w4 ⟨rfl, hw4⟩
      have Hw4 := Lib.hid (Hw3.out.trans (hw4.mono Hw3.out.size))
      obtain ⟨b0, b1, b2, b3⟩ := B0.out.below Hw4.out
      clear hw4 y00 y01 y02 y03
      go_wp2_with fail
      go_ret
      exact ⟨by rw [HR3.out]; rfl, tr HA.out Hw4.out⟩
end
end Go.Proofs.YtpbkeamjdolpgaaGreatDoor
namespace Go.Proofs.YtpbkeamjdolpgaaGreatDoor
open Go.RowKit Go.Lib Go.Shelf Go.Sort

theorem rstmt_ck (ok : Nat → Prop) (w0 : World) (hG : Gl w0) : ∀ (N : Nat) (x : Nd), wtN x < N → wtN x < 2 ^ 40 → KnR ok w0 x ∧ OneQ 101 [] ok stR w0 x
  | 0, _, h, _ => by omega
  | N + 1, .mk k n kids p, hN, hw => by
    have ih := fun x (hx : x ∈ kids) => rstmt_ck ok w0 hG N x (by have := kid_wt (k := k) (n := n) (p := p) hx; omega) (by have := kid_wt (k := k) (n := n) (p := p) hx; omega)
    have hE := rnode_ck ok w0 hG (wtN (.mk k n kids p) + 1) (.mk k n kids p) (Nat.lt_succ_self _) hw
    have hw2 := hw
    rw [wtN_mk] at hw2
    have hlen := len_wtL kids
    have hw' : wtL kids + n.length < 2 ^ 40 := by omega
    have hn : n.length < 2 ^ 40 := by omega
    have hK : ∀ x ∈ kids, KnR ok w0 x := fun x hx => (ih x hx).1
    refine ⟨⟨by rw [tst_ex]; exact hE.1, by rw [tst_arg]; exact hE.2, rpars_any27 ok w0 n kids p hw' hG k, rbody_any27 ok w0 k n kids p hw' fun x hx => (ih x hx).2⟩, ?_⟩
    by_cases h6 : k = 6
    · subst h6
      by_cases hno : n ≠ [] ∨ kids.length < 2 ∨ 3 < kids.length
      · exact rst6_no ok w0 n kids p hw' hK hno
      · have hn0 : n = [] := by
          by_cases h : n = []
          · exact h
          · exact absurd (.inl h) hno
        subst hn0
        by_cases h2 : kids.length = 2
        · obtain ⟨x0, x1, rfl⟩ := len_two h2
          exact rst6_two ok w0 p x0 x1 hK
        · have h3 : kids.length = 3 := by
            have h4 : ¬ kids.length < 2 := fun h => hno (.inr (.inl h))
            have h5 : ¬ 3 < kids.length := fun h => hno (.inr (.inr h))
            omega
          obtain ⟨x0, x1, x2, rfl⟩ := len_three h3
          exact rst6_three ok w0 p x0 x1 x2 hK
    cases hP : plainR n
    · exact rstno_any ok w0 n kids p hw' hG k h6 hP
    by_cases h1 : k = 1
    · subst h1; exact rst1_any ok w0 n kids p hw' hG hK
    by_cases h2 : k = 2
    · subst h2; exact rst2_any ok w0 n kids p hw' hG hK
    by_cases h3 : k = 3
    · subst h3; exact rst3_any ok w0 n kids p hw' hG hK
    by_cases h5 : k = 5
    · subst h5; exact rst5_any ok w0 n kids p hw' hG hK
    by_cases h7 : k = 7
    · subst h7
      by_cases hno : kids.length < 1 ∨ 2 < kids.length
      · exact rst7_no ok w0 n kids p hw' hG hno
      · by_cases hl : kids.length = 1
        · obtain ⟨x0, rfl⟩ := List.length_eq_one_iff.1 hl
          exact rst7_one ok w0 n p hG x0 hK hn
        · have hl2 : kids.length = 2 := by omega
          obtain ⟨x0, x1, rfl⟩ := len_two hl2
          exact rst7_two ok w0 n p hG x0 x1 hK hn
    exact rstk_any ok w0 n kids p hw' hG k h6 (by omega) h5 h7 hP
set_option maxHeartbeats 4000000 in
set_option maxRecDepth 100000 in
theorem rcheck_any (ok : Nat → Prop) (l : List Nd) (hw : wtL l < 2 ^ 40) (y : Option Addr) (c : Nat) (w : World) (hG : Gl w) (hrow : NdRow w ok l y) :
    Calls Tryz.prog 23 #[.slice y l.length c] w fun e w' => e = .returned (.int .i64 (checkR l)) ∧ Below w.heap.size w w' := by
  have hlen := len_wtL l
  have hsz := sz_wtL l
  have c0 := rdeep_any w.heap.size (szL l + 1) l (Nat.lt_succ_self _) (by omega) 1 (by omega) y c w (Nat.le_refl _) (hrow.wide fun _ _ h => h)
  have C1 : Hid (∀ W, Below w.heap.size w W → Calls Tryz.prog 56 #[.slice y l.length c] W (Yes (stsR l) W)) := fun W hb =>
    rsts_any27 ok l l.length rfl (by omega) y c W (hrow.below hb) fun x hx => ((rstmt_ck ok w hG (wtN x + 1) x (Nat.lt_succ_self _) (by have := wtL_mem hx; omega)).2).below hb
  have hC : checkR l = match deepL l 1 with | some _ => 3 | none => if stsR l then 0 else 290 := rfl
  obtain ⟨R, hR⟩ : ∃ R, checkR l = R := ⟨_, rfl⟩
  obtain ⟨D, hD⟩ : ∃ D, deepL l 1 = D := ⟨_, rfl⟩
  obtain ⟨B, hB⟩ : ∃ B, stsR l = B := ⟨_, rfl⟩
  obtain ⟨n, hn⟩ : ∃ n, l.length = n := ⟨_, rfl⟩
  rw [hR, hD, hB] at hC
  rw [hD, hn] at c0
  rw [hB, hn] at C1
  rw [hR, hn]
  have HC := Lib.hid hC
  clear hR hD hB hn hC hw hrow hlen hsz hG
  go_enter Tryz.func23, Tryz.ntmps23
  go_wp2_with fail
  refine c0.mono ?_
  clear c0
  rintro e w1 ⟨hb1, ⟨rfl, rfl⟩ | ⟨x, v, rfl, rfl, hv⟩⟩
  · have hbA := hb1.alloc (o := .cells #[.int .i64 0, .string ⟨#[]⟩, .slice none 0 0, .int .i64 0] 53) hb1.size
    have c1 := C1.out _ hbA
    have HBA := Lib.hid hbA
    clear hb1 hbA C1
    cases B
    · have HR : Hid (R = 290) := HC.out
      clear HC
      go_wp2_with fail
      refine c1.mono ?_
      clear c1
      rintro e w2 ⟨rfl, hb2⟩
      go_wp2_with fail
      go_ret
      exact ⟨by rw [HR.out]; rfl, tr HBA.out hb2⟩
    · have HR : Hid (R = 0) := HC.out
      clear HC
      go_wp2_with fail
      refine c1.mono ?_
      clear c1
      rintro e w2 ⟨rfl, hb2⟩
      go_wp2_with fail
      go_ret
      exact ⟨by rw [HR.out]; rfl, tr HBA.out hb2⟩
  · obtain ⟨k, nm, m, p⟩ := x
    obtain ⟨y2, c2, rfl, hrow2⟩ := hv
    have HR : Hid (R = 3) := HC.out
    have hbA := hb1.alloc (o := .cells #[.int .i64 k, .string ⟨nm.toArray⟩, .slice y2 m.length c2, .int .i64 p] 53) hb1.size
    have HBA := Lib.hid hbA
    clear HC hrow2 hb1 hbA C1
    go_wp2_with fail
    go_ret
    exact ⟨by rw [HR.out]; rfl, HBA.out⟩
end Go.Proofs.YtpbkeamjdolpgaaGreatDoor
namespace Go.Proofs.YtpbkeamjdolpgaaGreatDoor
open Go.RowKit Go.Lib

set_option maxHeartbeats 4000000 in
set_option maxRecDepth 100000 in
theorem rtext28_any (Γ : RCtx) (l : List Nd) (hs : wtL l < 2 ^ 38) (hx : stsR l = true) (w : World) (y : Option Addr) (cv : Cp l.length) (hrow : NdRow w (fun b => b < Γ.B) l y) (h : RW Γ w [] 0 0 none [] []) (hB : Γ.B ≤ w.heap.size) :
    Calls Tryz.prog 90 #[.pointer (some ⟨Γ.wb, 0, none⟩), .slice y l.length cv.val] w fun e w' => e = .returned (.tuple #[]) ∧ RGo Γ w [] 0 none [] [] (evX l) w' := by
  have cb := rblk28_any Γ l (by omega) hx w [] 0 none [] [] 0 [] 0 (.agg #[.int .i64 0, .string ⟨#[]⟩, .slice y l.length cv.val, .int .i64 0]) ⟨y, cv, rfl, hrow⟩ h hB (by
    refine ⟨?_, ?_, ?_, ?_, ?_⟩ <;> (show 0 + _ < _; omega))
  obtain ⟨c, hc⟩ : ∃ c, cv.val = c := ⟨_, rfl⟩
  obtain ⟨K, hK⟩ : ∃ K, l.length = K := ⟨_, rfl⟩
  rw [hc, hK] at cb ⊢
  clear hc cv hK hrow h hB
  go_enter Tryz.func90, Tryz.ntmps90
  go_wp2_with fail
  refine cb.mono ?_
  clear cb
  rintro e w2 ⟨rfl, hg⟩
  have HEND := Lib.hid hg
  clear hg
  go_wp2_with fail
  go_end0
  exact ⟨rfl, HEND.out⟩
theorem RW.new (w : World) (all : Bool) : RW ⟨w.heap.size, w.heap.size, all⟩ (w.alloc (.cells #[.slice none 0 0, .int .i64 0, .int .i64 0, .pointer none, .bool all, .slice none 0 0, .slice none 0 0] 129)) [] 0 0 none [] [] :=
  ⟨_, none, _, _, ⟨heap_alloc_new w _, World.ownsRow_nil _ _ _ _, rfl, World.ownsRow_nil _ _ _ _, World.ownsRow_nil _ _ _ _, Nat.le_refl _⟩⟩
set_option maxHeartbeats 4000000 in
set_option maxRecDepth 100000 in
theorem rchk28_any (l : List Nd) (hs : wtL l < 2 ^ 38) (hx : stsR l = true) (ok : Nat → Prop) (y : Option Addr) (cv : Cp l.length) (w : World) (hrow : NdRow w ok l y) (hok : ∀ b, ok b → b < w.heap.size) :
    Calls Tryz.prog 89 #[.slice y l.length cv.val] w fun e w' => Below w.heap.size w w' ∧ ∃ fp, e = .returned (.pointer fp) ∧ FltAt w' (wrongE (evX l)) fp := by
  have hA : Below w.heap.size w (w.alloc (.cells #[.slice none 0 0, .int .i64 0, .int .i64 0, .pointer none, .bool false, .slice none 0 0, .slice none 0 0] 129)) := (Below.refl _ _).alloc (Nat.le_refl _) _
  have ct : Calls Tryz.prog 90 #[.pointer (some ⟨w.heap.size, 0, none⟩), .slice y l.length cv.val] _ _ := rtext28_any ⟨w.heap.size, w.heap.size, false⟩ l hs hx _ y cv (((hrow.below hA).wide fun k hk _ => hok k hk)) (RW.new w false) hA.size
  have HA := Lib.hid hA
  obtain ⟨c, hc⟩ : ∃ c, cv.val = c := ⟨_, rfl⟩
  obtain ⟨K, hK⟩ : ∃ K, l.length = K := ⟨_, rfl⟩
  rw [hc, hK] at ct ⊢
  clear hc cv hK hrow hA hok
  go_enter Tryz.func89, Tryz.ntmps89
  go_wp2_with fail
  refine ct.mono ?_
  clear ct
  rintro e w2 ⟨rfl, ho, fr1, ca1, ⟨dv, fp, fv, cv, hr⟩, -⟩
  have HEND : Hid (Below w.heap.size w w2 ∧ FltAt w2 (wrongE (evX l)) fp) := Lib.hid (by
    refine ⟨?_, by simpa using hr.flt⟩
    rcases ho.toBelow (Nat.le_refl _) with h1 | h1
    · exact HA.out.trans h1
    · exact absurd HA.out.size h1)
  obtain ⟨-, -, -, x3, -, -, -, xf⟩ := hr.cells
  have x3 : w2.cell? ⟨w.heap.size, 3, none⟩ = some (.pointer fp) := x3
  clear ho hr xf
  go_wp2_with fail
  go_ret
  exact ⟨HEND.out.1, fp, rfl, HEND.out.2⟩
set_option maxHeartbeats 4000000 in
set_option maxRecDepth 100000 in
theorem ranswer28_any (l : List Nd) (hs : wtL l < 2 ^ 38) (hc0 : checkR l = 0) (ok : Nat → Prop) (y : Option Addr) (cv : Cp l.length) (w : World) (hG : Gl w) (hrow : NdRow w ok l y) (hok : ∀ b, ok b → b < w.heap.size) :
    Calls Tryz.prog 47 #[.slice y l.length cv.val] w fun e w' => Below w.heap.size w w' ∧ ∃ fp, e = .returned (.tuple #[.int .i64 0, .pointer fp]) ∧ FltAt w' (wrongE (evX l)) fp := by
  have c0 := rcheck_any ok l (by omega) y cv.val w hG hrow
  rw [hc0] at c0
  have ck : ∀ w1, Below w.heap.size w w1 → _ := fun w1 hb => rchk28_any l hs (checkR_ok hc0) ok y cv w1 (hrow.below hb) fun b h => Nat.lt_of_lt_of_le (hok b h) hb.size
  obtain ⟨c, hc⟩ : ∃ c, cv.val = c := ⟨_, rfl⟩
  obtain ⟨K, hK⟩ : ∃ K, l.length = K := ⟨_, rfl⟩
  rw [hc, hK] at c0 ⊢
  rw [hc, hK] at ck
  have CK := Lib.hid ck
  clear hc cv hK hrow hok ck hG
  go_enter Tryz.func47, Tryz.ntmps47
  go_wp2_with fail
  refine c0.mono ?_
  clear c0
  rintro e w1 ⟨rfl, hb1⟩
  have c1 := CK.out w1 hb1
  have HB1 := Lib.hid hb1
  clear hb1
  go_wp2_with fail
  refine c1.mono ?_
  clear c1
  rintro e w2 ⟨hb2, fp, rfl, hf⟩
  have HEND := Lib.hid (⟨tr HB1.out hb2, hf⟩ : _ ∧ _)
  clear hb2 hf
  go_wp2_with fail
  refine bodyPost_ret (v := .tuple #[.int .i64 0, .pointer fp]) (by simp [results, Tryz.results47, go_sem]) rfl ?_
  exact ⟨HEND.out.1, fp, rfl, HEND.out.2⟩
set_option maxHeartbeats 4000000 in
set_option maxRecDepth 100000 in
theorem rall28_any (l : List Nd) (hs : wtL l < 2 ^ 38) (hc0 : checkR l = 0) (ok : Nat → Prop) (y : Option Addr) (cv : Cp l.length) (w : World) (hG : Gl w) (hrow : NdRow w ok l y) (hok : ∀ b, ok b → b < w.heap.size) :
    Calls Tryz.prog 48 #[.slice y l.length cv.val] w fun e w' => Below w.heap.size w w' ∧ ∃ v1 v2, e = .returned (.tuple #[v1, v2]) ∧
      w'.ownsRow w.heap.size 9 1 v1 (sfreeR l).length ((sfreeR l).map encStr) ∧ w'.ownsRow w.heap.size 9 1 v2 (scallR l).length ((scallR l).map encStr) := by
  have c0 := rcheck_any ok l (by omega) y cv.val w hG hrow
  rw [hc0] at c0
  have ck : ∀ w1, Below w.heap.size w w1 → Below w1.heap.size w1 (w1.alloc (.cells #[.slice none 0 0, .int .i64 0, .int .i64 0, .pointer none, .bool true, .slice none 0 0, .slice none 0 0] 129)) ∧ Calls Tryz.prog 90 #[.pointer (some ⟨w1.heap.size, 0, none⟩), .slice y l.length cv.val] _ _ := fun w1 hb =>
    have hA : Below w1.heap.size w1 (w1.alloc (.cells #[.slice none 0 0, .int .i64 0, .int .i64 0, .pointer none, .bool true, .slice none 0 0, .slice none 0 0] 129)) := (Below.refl _ _).alloc (Nat.le_refl _) _
    ⟨hA, rtext28_any ⟨w1.heap.size, w1.heap.size, true⟩ l hs (checkR_ok hc0) _ y cv ((((hrow.below hb).below hA).wide fun k hk _ => Nat.lt_of_lt_of_le (hok k hk) hb.size)) (RW.new w1 true) hA.size⟩
  obtain ⟨c, hc⟩ : ∃ c, cv.val = c := ⟨_, rfl⟩
  obtain ⟨K, hK⟩ : ∃ K, l.length = K := ⟨_, rfl⟩
  rw [hc, hK] at c0 ⊢
  rw [hc, hK] at ck
  have HC := Lib.hid hc0
  have CK := Lib.hid ck
  clear hc cv hK hrow hok ck hG hc0
  go_enter Tryz.func48, Tryz.ntmps48
  go_wp2_with fail
  refine c0.mono ?_
  clear c0
  rintro e w1 ⟨rfl, hb1⟩
  obtain ⟨hA, c1⟩ := CK.out w1 hb1
  have HB1 := Lib.hid hb1
  have HA := Lib.hid hA
  clear hb1 hA
  go_wp2_with fail
  refine c1.mono ?_
  clear c1
  rintro e w2 ⟨rfl, ho, fr1, ca1, ⟨dv, fp, fv, cv, hr⟩, -, -, hall⟩
  have HEND : Hid (Below w.heap.size w w2 ∧ w2.ownsRow w.heap.size 9 1 fv (sfreeR l).length ((sfreeR l).map encStr) ∧ w2.ownsRow w.heap.size 9 1 cv (scallR l).length ((scallR l).map encStr)) := Lib.hid (by
    obtain ⟨e1, e2⟩ := hall rfl
    have f1 : sfreeR l = fr1 := by
      unfold sfreeR risL
      rw [if_pos HC.out, e1]
    have f2 : scallR l = ca1 := by
      unfold scallR risL
      rw [if_pos HC.out, e2]
    rw [f1, f2]
    have hlow : w.heap.size ≤ w1.heap.size := HB1.out.size
    refine ⟨?_, ownsRow_low hr.fre hlow, ownsRow_low hr.cal hlow⟩
    rcases ho.toBelow (Nat.le_refl _) with h1 | h1
    · exact tr HB1.out (HA.out.trans h1)
    · exact absurd HA.out.size h1)
  obtain ⟨-, -, -, -, -, x5, x6, xf⟩ := hr.cells
  have x5 : w2.cell? ⟨w1.heap.size, 5, none⟩ = some fv := x5
  have x6 : w2.cell? ⟨w1.heap.size, 6, none⟩ = some cv := x6
  clear ho hr xf hall
  go_wp2_with fail
  go_region
  all_goals (
    go_wp2_with fail
    refine bodyPost_ret (v := .tuple #[fv, cv]) (by simp [results, Tryz.results48, go_sem]) rfl ?_
    have hdr : Below w2.heap.size w2 w2.drew := (Below.refl _ _).drew
    exact ⟨HEND.out.1.drew, _, _, rfl, own_below HEND.out.2.1 hdr, own_below HEND.out.2.2 hdr⟩)
end Go.Proofs.YtpbkeamjdolpgaaGreatDoor
namespace Go.Proofs.YtpbkeamjdolpgaaGreatDoor
open Go.RowKit Go.Lib

set_option maxHeartbeats 4000000 in
set_option maxRecDepth 100000 in
theorem is_ok (w : World) : Calls Tryz.prog 43 #[.nilIface, .int .i64 0, .pointer none] w fun e w' => e = .returned (.bool true) ∧ Below w.heap.size w w' := by
  go_enter Tryz.func43, Tryz.ntmps43
  go_wp2_with fail
  go_ret
  exact ⟨rfl, Below.refl _ _⟩
set_option maxHeartbeats 4000000 in
set_option maxRecDepth 100000 in
theorem is_hit (code c p : Int) (T : ByteArray) (b1 b2 : Nat) (w : World) (hE : GlE w) (h1 : w.heap[b1]? = some (.cells #[.int .i64 c, .int .i64 p, .string T] 61 (0, 0))) (h2 : w.heap[b2]? = some (.cells #[.int .i64 c, .int .i64 p, .string T] 61 (0, 0))) :
    Calls Tryz.prog 43 #[.iface 23 (.pointer (some ⟨b1, 0, none⟩)), .int .i64 code, .pointer (some ⟨b2, 0, none⟩)] w fun e w' => e = .returned (.bool true) ∧ Below w.heap.size w w' := by
  have cT := stold_hit c p T b1 b2 w hE h1 h2
  clear hE h1 h2
  go_enter Tryz.func43, Tryz.ntmps43
  go_wp2_with fail
  refine cT.mono ?_
  rintro e w1 ⟨rfl, hb1⟩
  go_wp2_with fail
  go_ret
  exact ⟨rfl, hb1⟩
end Go.Proofs.YtpbkeamjdolpgaaGreatDoor
namespace Go.Proofs.YtpbkeamjdolpgaaGreatDoor
open Go.RowKit Go.Lib Go.Shelf

structure RSt (C : Ctx) (w : World) (b : Bool) (p : Nat) : Prop where
  blk : ∃ a, w.heap[C.pb]? = some (.cells #[.string C.s, .slice C.x C.ts.length C.c, .int .i64 p, .pointer a] 69 (0, 0)) ∧ (b = false → a = none) ∧
    (b = true → ∃ g, a = some ⟨g, 0, none⟩ ∧ g ≠ C.pb ∧ w.heap[g]? = some (.cells #[.int .i64 270, .int .i64 (placeT C.ts C.s.size p), .string ⟨(textT C.ts p).toArray⟩] 61 (0, 0)))
  row : TokRow w C.x C.ts
  xne : ∀ g, C.x = some ⟨g, 0, none⟩ → g ≠ C.pb
  le : p ≤ C.ts.length
  len : C.ts.length ≤ 4096
theorem RSt.lt {C : Ctx} {w : World} {b : Bool} {p : Nat} (h : RSt C w b p) : C.pb < w.heap.size := by
  obtain ⟨a, h1, _⟩ := h.blk
  exact (Array.getElem?_eq_some_iff.1 h1).1
theorem RSt.below {C : Ctx} {w w' : World} {b : Bool} {p : Nat} (h : RSt C w b p) (hb : Below w.heap.size w w') : RSt C w' b p := by
  obtain ⟨a, h1, h2, h3⟩ := h.blk
  refine ⟨⟨a, (hb.block _ h.lt).trans h1, h2, fun e => ?_⟩, h.row.below hb, h.xne, h.le, h.len⟩
  obtain ⟨g, k1, k2, k3⟩ := h3 e
  exact ⟨g, k1, k2, (hb.block _ (Array.getElem?_eq_some_iff.1 k3).1).trans k3⟩
theorem RSt.cellsF {C : Ctx} {w : World} {p : Nat} (h : RSt C w false p) : w.cell? ⟨C.pb, 0, none⟩ = some (.string C.s) ∧ w.cell? ⟨C.pb, 1, none⟩ = some (.slice C.x C.ts.length C.c) ∧ w.cell? ⟨C.pb, 2, none⟩ = some (.int .i64 p) ∧ w.cell? ⟨C.pb, 3, none⟩ = some (.pointer none) ∧ w.frozen? ⟨C.pb, 2, none⟩ = false ∧ w.frozen? ⟨C.pb, 3, none⟩ = false := by
  obtain ⟨a, h1, h2, h3⟩ := h.blk
  obtain rfl := h2 rfl
  refine ⟨?_, ?_, ?_, ?_, ?_, ?_⟩ <;> simp [World.cell?, World.frozen?, h1]
theorem RSt.cellsT {C : Ctx} {w : World} {p : Nat} (h : RSt C w true p) : ∃ g, w.cell? ⟨C.pb, 0, none⟩ = some (.string C.s) ∧ w.cell? ⟨C.pb, 1, none⟩ = some (.slice C.x C.ts.length C.c) ∧ w.cell? ⟨C.pb, 2, none⟩ = some (.int .i64 p) ∧ w.cell? ⟨C.pb, 3, none⟩ = some (.pointer (some ⟨g, 0, none⟩)) ∧ w.frozen? ⟨C.pb, 2, none⟩ = false ∧ w.frozen? ⟨C.pb, 3, none⟩ = false := by
  obtain ⟨a, h1, h2, h3⟩ := h.blk
  obtain ⟨g, rfl, _⟩ := h3 rfl
  refine ⟨g, ?_, ?_, ?_, ?_, ?_, ?_⟩ <;> simp [World.cell?, World.frozen?, h1]
theorem RSt.cells {C : Ctx} {w : World} {b : Bool} {p : Nat} (h : RSt C w b p) : w.cell? ⟨C.pb, 0, none⟩ = some (.string C.s) ∧ w.cell? ⟨C.pb, 1, none⟩ = some (.slice C.x C.ts.length C.c) ∧ w.cell? ⟨C.pb, 2, none⟩ = some (.int .i64 p) := by
  obtain ⟨a, h1, h2, h3⟩ := h.blk
  refine ⟨?_, ?_, ?_⟩ <;> simp [World.cell?, h1]
theorem RSt.step {C : Ctx} {w : World} {p : Nat} (h : RSt C w false p) {q : Nat} (hq : q ≤ C.ts.length) : RSt C (w.setCell ⟨C.pb, 2, none⟩ (.int .i64 q)) false q := by
  refine ⟨⟨none, ?_, fun _ => rfl, fun e => nomatch e⟩, ?_, h.xne, hq, h.len⟩
  · obtain ⟨a, h1, h2, h3⟩ := h.blk
    obtain rfl := h2 rfl
    simp only [World.setCell, Array.getElem?_modify, if_true, h1]
    rfl
  · intro i u hu
    obtain ⟨g, h1, h2, h3, h4⟩ := h.row i u hu
    have hg := h.xne g h1
    refine ⟨g, h1, ?_, ?_, ?_⟩
    · rw [World.cell?_of_block (Below.heap_setCell w _ _ _ hg)]; exact h2
    · rw [World.cell?_of_block (Below.heap_setCell w _ _ _ hg)]; exact h3
    · rw [World.cell?_of_block (Below.heap_setCell w _ _ _ hg)]; exact h4

def Tot {A : Type} (R : Nat → Res A) (b : Bool) (p : Nat) : Res A := if b then .bad p else R p
def Mt {A : Type} (T : Res A) (b : Bool) (p : Nat) (a : A) : Prop := match T with
  | .out => False
  | .bad q => b = true ∧ p = q
  | .ok x q => b = false ∧ p = q ∧ a = x
theorem Mt.bind {A B : Type} {T : Res A} {b : Bool} {p : Nat} {a : A} (h : Mt T b p a) (f : A → Nat → Res B) : T.bind f = Tot (f a) b p := by
  cases T with
  | out => exact h.elim
  | bad q => obtain ⟨rfl, rfl⟩ := h; rfl
  | ok x q => obtain ⟨rfl, rfl, rfl⟩ := h; rfl
theorem tot_bind {A B : Type} (R : Nat → Res A) (f : A → Nat → Res B) (b : Bool) (p : Nat) : Tot (fun q => (R q).bind f) b p = (Tot R b p).bind f := by
  cases b <;> rfl
theorem tot_go {A : Type} (R : Nat → Res A) (p : Nat) : Tot R false p = R p := rfl

set_option maxHeartbeats 4000000 in
set_option maxRecDepth 100000 in
theorem rplace_any (C : Ctx) (b : Bool) (p : Nat) (w : World) (h : RSt C w b p) :
    Calls Tryz.prog 81 #[.pointer (some ⟨C.pb, 0, none⟩)] w fun e w' => e = .returned (.int .i64 (placeT C.ts C.s.size p)) ∧ Below w.heap.size w w' := by
  obtain ⟨c0, c1, c2⟩ := h.cells
  have hl := h.len
  by_cases hp : p < C.ts.length
  · obtain ⟨t, ht⟩ : ∃ t, C.ts[p]? = some t := ⟨C.ts[p], List.getElem?_eq_getElem hp⟩
    obtain ⟨g, hx, k0, k1, k2⟩ := h.row p t ht
    rw [hx] at c1
    have e3 : placeT C.ts C.s.size p = t.2.2 := by unfold placeT; rw [ht]
    rw [e3]
    obtain ⟨n, hn⟩ : ∃ n, C.ts.length = n := ⟨_, rfl⟩
    rw [hn] at c1 hp hl
    have Q : decide ((p : Int) < (n : Int)) = true := by simp; omega
    clear h ht hx e3 hn
    go_enter Tryz.func81, Tryz.ntmps81
    go_wp2_with fail
    go_quiet (fail)
    go_wp2_with fail
    go_quiet (fail)
    go_wp2_with fail
    go_ret
    exact ⟨rfl, by repeat (first | exact Below.refl _ _ | refine bdn ?_ _)⟩
  · have hnone : C.ts[p]? = none := List.getElem?_eq_none (by omega)
    have e3 : placeT C.ts C.s.size p = C.s.size := by unfold placeT; rw [hnone]
    rw [e3]
    obtain ⟨n, hn⟩ : ∃ n, C.ts.length = n := ⟨_, rfl⟩
    rw [hn] at c1 hp hl
    have Q : decide ((p : Int) < (n : Int)) = false := by simp; omega
    clear h hnone e3 hn
    go_enter Tryz.func81, Tryz.ntmps81
    go_wp2_with fail
    go_quiet (fail)
    go_wp2_with fail
    go_ret
    exact ⟨rfl, by repeat (first | exact Below.refl _ _ | refine bdn ?_ _)⟩

set_option maxHeartbeats 4000000 in
set_option maxRecDepth 100000 in
theorem rnamed_any (C : Ctx) (b : Bool) (p : Nat) (w : World) (h : RSt C w b p) :
    Calls Tryz.prog 141 #[.pointer (some ⟨C.pb, 0, none⟩)] w fun e w' => e = .returned (.bool (!b && namedT C.ts p)) ∧ Below w.heap.size w w' := by
  have hl := h.len
  cases b
  · obtain ⟨c0, c1, c2, c3, _⟩ := h.cellsF
    by_cases hp : p < C.ts.length
    · obtain ⟨t, ht⟩ : ∃ t, C.ts[p]? = some t := ⟨C.ts[p], List.getElem?_eq_getElem hp⟩
      obtain ⟨g, hx, k0, k1, k2⟩ := h.row p t ht
      rw [hx] at c1
      have e1 : namedT C.ts p = (decide (((t.1 : Nat) : Int) = 0) && !resv t.2.1) := by unfold namedT kindT textT; rw [ht]
      obtain ⟨B, hB⟩ : ∃ B, namedT C.ts p = B := ⟨_, rfl⟩
      rw [hB] at e1 ⊢
      obtain ⟨k, hk⟩ : ∃ k : Int, ((t.1 : Nat) : Int) = k := ⟨_, rfl⟩
      obtain ⟨s, hs⟩ : ∃ s, t.2.1 = s := ⟨_, rfl⟩
      obtain ⟨n, hn⟩ : ∃ n, C.ts.length = n := ⟨_, rfl⟩
      rw [hk] at e1 k0
      rw [hs] at e1 k1
      rw [hn] at c1 hp hl
      have cr : ∀ w1, Calls Tryz.prog 140 #[.string ⟨s.toArray⟩] w1 fun e w' => e = .returned (.bool (resv s)) ∧ w' = w1 := fun w1 => (rresv_any s w1).mono fun _ _ h => ⟨h.1, h.2.symm⟩
      obtain ⟨r, hr⟩ : ∃ r, resv s = r := ⟨_, rfl⟩
      rw [hr] at e1 cr
      have Q : decide ((n : Int) ≤ (p : Int)) = false := by simp; omega
      clear h ht hx hn hB hk hs hr k2
      by_cases h3 : k = 0
      · subst h3
        have H : B = !r := by simpa using e1
        subst H
        clear e1
        go_enter Tryz.func141, Tryz.ntmps141
        go_wp2_with fail
        go_quiet (fail)
        go_wp2_with fail
        go_quiet ((go_at_call 140; exact (cr _).mono fun _ _ h => ⟨h.1, _, h.2⟩))
        go_wp2_with fail
        go_quiet (fail)
        go_wp2_with fail
        go_ret
        exact ⟨rfl, by repeat (first | exact Below.refl _ _ | refine bdn ?_ _)⟩
      · have Q3 : (k == 0) = false := beq_eq_false_iff_ne.2 h3
        have H : B = false := by simpa [h3] using e1
        subst H
        clear e1 h3
        go_enter Tryz.func141, Tryz.ntmps141
        go_wp2_with fail
        go_quiet (fail)
        go_wp2_with fail
        go_quiet ((go_at_call 140; exact (cr _).mono fun _ _ h => ⟨h.1, _, h.2⟩))
        go_wp2_with fail
        go_quiet (fail)
        go_wp2_with fail
        go_ret
        exact ⟨rfl, by repeat (first | exact Below.refl _ _ | refine bdn ?_ _)⟩
    · have hnone : C.ts[p]? = none := List.getElem?_eq_none (by omega)
      have e1 : namedT C.ts p = false := by unfold namedT kindT; rw [hnone]; rfl
      rw [e1]
      obtain ⟨n, hn⟩ : ∃ n, C.ts.length = n := ⟨_, rfl⟩
      rw [hn] at c1 hp hl
      have Q : decide ((n : Int) ≤ (p : Int)) = true := by simp; omega
      clear h hnone e1 hn
      go_enter Tryz.func141, Tryz.ntmps141
      go_wp2_with fail
      go_quiet (fail)
      go_wp2_with fail
      go_ret
      exact ⟨rfl, by repeat (first | exact Below.refl _ _ | refine bdn ?_ _)⟩
  · obtain ⟨g, c0, c1, c2, c3, _⟩ := h.cellsT
    clear h
    go_enter Tryz.func141, Tryz.ntmps141
    go_wp2_with fail
    go_quiet (fail)
    go_wp2_with fail
    go_ret
    exact ⟨rfl, by repeat (first | exact Below.refl _ _ | refine bdn ?_ _)⟩

set_option maxHeartbeats 4000000 in
set_option maxRecDepth 100000 in
theorem ris_any (C : Ctx) (b : Bool) (p : Nat) (s : List UInt8) (w : World) (h : RSt C w b p) :
    Calls Tryz.prog 82 #[.pointer (some ⟨C.pb, 0, none⟩), .string ⟨s.toArray⟩] w fun e w' => e = .returned (.bool (!b && isT C.ts p s)) ∧ Below w.heap.size w w' := by
  have hl := h.len
  cases b
  · obtain ⟨c0, c1, c2, c3, _⟩ := h.cellsF
    by_cases hp : p < C.ts.length
    · obtain ⟨t, ht⟩ : ∃ t, C.ts[p]? = some t := ⟨C.ts[p], List.getElem?_eq_getElem hp⟩
      obtain ⟨g, hx, k0, k1, k2⟩ := h.row p t ht
      rw [hx] at c1
      have e1 : isT C.ts p s = (decide (t.2.1 = s) && (decide (((t.1 : Nat) : Int) = 2) || (decide (((t.1 : Nat) : Int) = 0) && resv s))) := by unfold isT kindT textT; rw [ht]
      obtain ⟨B, hB⟩ : ∃ B, isT C.ts p s = B := ⟨_, rfl⟩
      rw [hB] at e1 ⊢
      obtain ⟨k, hk⟩ : ∃ k : Int, ((t.1 : Nat) : Int) = k := ⟨_, rfl⟩
      obtain ⟨u, hu⟩ : ∃ u, t.2.1 = u := ⟨_, rfl⟩
      obtain ⟨n, hn⟩ : ∃ n, C.ts.length = n := ⟨_, rfl⟩
      rw [hk] at e1 k0
      rw [hu] at e1 k1
      rw [hn] at c1 hp hl
      have cr := fun w1 => rresv_any s w1
      obtain ⟨r, hr⟩ : ∃ r, resv s = r := ⟨_, rfl⟩
      rw [hr] at e1 cr
      have Q : decide ((n : Int) ≤ (p : Int)) = false := by simp; omega
      clear h ht hx hn hB hk hu hr
      obtain ⟨q, hq⟩ : ∃ q : Int, ((t.2.2 : Nat) : Int) = q := ⟨_, rfl⟩
      rw [hq] at k2
      clear hq
      go_enter Tryz.func82, Tryz.ntmps82
      go_wp2_with fail
      go_quiet (fail)
      go_wp2_with fail
      have HB : Below w.heap.size w (w.drewN nq) := bdn (Below.refl _ _) _
      have HBh := Lib.hid HB
      replace c1 : (w.drewN nq).cell? _ = _ := c1
      replace c2 : (w.drewN nq).cell? _ = _ := c2
      replace k0 : (w.drewN nq).cell? _ = _ := k0
      replace k1 : (w.drewN nq).cell? _ = _ := k1
      replace k2 : (w.drewN nq).cell? _ = _ := k2
      clear c0 c3 HB
      generalize World.drewN w nq = W at *
      have a0 : ∀ o, (W.alloc o).cell? ⟨C.pb, 1, none⟩ = some (.slice (some ⟨g, 0, none⟩) n C.c) := fun o => al_cell c1 o
      have a2 : ∀ o, (W.alloc o).cell? ⟨C.pb, 2, none⟩ = some (.int .i64 p) := fun o => al_cell c2 o
      have b0 : ∀ o, (W.alloc o).cell? ⟨g, p * 3, none⟩ = some (.int .i64 k) := fun o => al_cell k0 o
      have b1 : ∀ o, (W.alloc o).cell? ⟨g, p * 3 + 1, none⟩ = some (.string ⟨u.toArray⟩) := fun o => al_cell k1 o
      have b2 : ∀ o, (W.alloc o).cell? ⟨g, p * 3 + 2, none⟩ = some (.int .i64 q) := fun o => al_cell k2 o
      go_region
      clear a0 a2 b0 b1 b2
      by_cases h1 : u = s
      · subst h1
        by_cases h2 : k = 2
        · subst h2
          have H : B = true := by simpa using e1
          subst H
          clear e1
          clear c1 c2 k0 k1 k2
          go_wp2_with ((go_at_call 140; (with_reducible refine (cr _).mono ?_); rintro e w2 ⟨rfl, rfl⟩))
          go_ret
          exact ⟨rfl, (HBh.out.alloc HBh.out.size _).trans ⟨rfl, rfl, rfl, Nat.le_refl _, fun _ _ => rfl⟩⟩
        · have Q2 : (k == 2) = false := beq_eq_false_iff_ne.2 h2
          by_cases h3 : k = 0
          · subst h3
            have H : B = r := by simpa using e1
            subst H
            clear e1
            clear c1 c2 k0 k1 k2
            go_wp2_with ((go_at_call 140; (with_reducible refine (cr _).mono ?_); rintro e w2 ⟨rfl, rfl⟩))
            go_ret
            exact ⟨rfl, (HBh.out.alloc HBh.out.size _).trans ⟨rfl, rfl, rfl, Nat.le_refl _, fun _ _ => rfl⟩⟩
          · have Q3 : (k == 0) = false := beq_eq_false_iff_ne.2 h3
            have H : B = false := by simpa [h2, h3] using e1
            subst H
            clear e1
            clear c1 c2 k0 k1 k2
            go_wp2_with ((go_at_call 140; (with_reducible refine (cr _).mono ?_); rintro e w2 ⟨rfl, rfl⟩))
            go_ret
            exact ⟨rfl, (HBh.out.alloc HBh.out.size _).trans ⟨rfl, rfl, rfl, Nat.le_refl _, fun _ _ => rfl⟩⟩
      · have Q1 := str_ne h1
        have H : B = false := by simpa [h1] using e1
        subst H
        clear e1
        go_wp2_with ((go_at_call 140; (with_reducible refine (cr _).mono ?_); rintro e w2 ⟨rfl, rfl⟩))
        go_ret
        exact ⟨rfl, (HBh.out.alloc HBh.out.size _).trans ⟨rfl, rfl, rfl, Nat.le_refl _, fun _ _ => rfl⟩⟩
    · have hnone : C.ts[p]? = none := List.getElem?_eq_none (by omega)
      have e1 : isT C.ts p s = false := by unfold isT kindT; rw [hnone]; simp
      rw [e1]
      obtain ⟨n, hn⟩ : ∃ n, C.ts.length = n := ⟨_, rfl⟩
      rw [hn] at c1 hp hl
      have Q : decide ((n : Int) ≤ (p : Int)) = true := by simp; omega
      clear h hnone e1 hn
      go_enter Tryz.func82, Tryz.ntmps82
      go_wp2_with fail
      go_quiet (fail)
      go_wp2_with fail
      go_ret
      exact ⟨rfl, by repeat (first | exact Below.refl _ _ | refine bdn ?_ _)⟩
  · obtain ⟨g, c0, c1, c2, c3, _⟩ := h.cellsT
    clear h
    go_enter Tryz.func82, Tryz.ntmps82
    go_wp2_with fail
    go_quiet (fail)
    go_wp2_with fail
    go_ret
    exact ⟨rfl, by repeat (first | exact Below.refl _ _ | refine bdn ?_ _)⟩

theorem RSt.setBad {C : Ctx} {w w' : World} {p g : Nat} (h : RSt C w false p) (hp : w'.heap[C.pb]? = some (.cells #[.string C.s, .slice C.x C.ts.length C.c, .int .i64 p, .pointer (some ⟨g, 0, none⟩)] 69 (0, 0)))
    (hg : w.heap.size ≤ g) (hf : w'.heap[g]? = some (.cells #[.int .i64 270, .int .i64 (placeT C.ts C.s.size p), .string ⟨(textT C.ts p).toArray⟩] 61 (0, 0))) (ho : Ow C.pb w w') : RSt C w' true p := by
  refine ⟨⟨some ⟨g, 0, none⟩, hp, fun e => (nomatch e), fun _ => ⟨g, rfl, ?_, hf⟩⟩, ?_, h.xne, h.le, h.len⟩
  · have := h.lt
    omega
  · intro i u hu
    obtain ⟨b, h1, h2, h3, h4⟩ := h.row i u hu
    have hb := h.xne b h1
    exact ⟨b, h1, ho.cell (p := ⟨b, i * 3, none⟩) hb h2, ho.cell (p := ⟨b, i * 3 + 1, none⟩) hb h3, ho.cell (p := ⟨b, i * 3 + 2, none⟩) hb h4⟩

theorem RSt.told {C : Ctx} {w : World} {p : Nat} (h : RSt C w false p) (x : List Value) (t : TypeId) (m : Nat) (w' : World) (e : w' = ((w.setCell ⟨C.pb, 3, none⟩ (.pointer (some ⟨w.heap.size, 0, none⟩))).alloc (.cells x.toArray t)).drewN m) :
    w'.heap[C.pb]? = some (.cells #[.string C.s, .slice C.x C.ts.length C.c, .int .i64 p, .pointer (some ⟨w.heap.size, 0, none⟩)] 69 (0, 0)) ∧ w'.heap[w.heap.size]? = some (.cells x.toArray t) ∧ Ow C.pb w w' := by
  subst e
  obtain ⟨a, h1, h2, h3⟩ := h.blk
  obtain rfl := h2 rfl
  have hlt := h.lt
  refine ⟨?_, ?_, ?_⟩
  · show ((w.setCell ⟨C.pb, 3, none⟩ (.pointer (some ⟨w.heap.size, 0, none⟩))).alloc (.cells x.toArray t)).heap[C.pb]? = _
    simp only [World.alloc, World.setCell, Array.getElem?_push, Array.size_modify, Array.getElem?_modify, if_true, h1]
    rw [if_neg (by omega)]
    rfl
  · show ((w.setCell ⟨C.pb, 3, none⟩ (.pointer (some ⟨w.heap.size, 0, none⟩))).alloc (.cells x.toArray t)).heap[w.heap.size]? = _
    simp only [World.alloc, World.setCell, Array.getElem?_push, Array.size_modify, if_true]
  · exact (((Ow.refl C.pb w).setCell (a := ⟨C.pb, 3, none⟩) (.inl rfl) _).alloc _).drewN _

set_option maxHeartbeats 4000000 in
set_option maxRecDepth 100000 in
theorem rfail_any (C : Ctx) (b : Bool) (p : Nat) (w : World) (h : RSt C w b p) :
    Calls Tryz.prog 142 #[.pointer (some ⟨C.pb, 0, none⟩)] w fun e w' => e = .returned (.tuple #[]) ∧ RSt C w' true p ∧ Ow C.pb w w' := by
  have hl := h.len
  cases b
  · obtain ⟨c0, c1, c2, c3, c4, c5⟩ := h.cellsF
    have H := Lib.hid h
    have hlt := h.lt
    have HB : Hid (w.heap[C.pb]? = some (.cells #[.string C.s, .slice C.x C.ts.length C.c, .int .i64 p, .pointer none] 69 (0, 0))) := by
      obtain ⟨a, h1, h2, _⟩ := h.blk
      obtain rfl := h2 rfl
      exact h1
    by_cases hp : p < C.ts.length
    · obtain ⟨t, ht⟩ : ∃ t, C.ts[p]? = some t := ⟨C.ts[p], List.getElem?_eq_getElem hp⟩
      obtain ⟨g, hx, k0, k1, k2⟩ := h.row p t ht
      have hgp := h.xne g hx
      have e2 : placeT C.ts C.s.size p = t.2.2 := by unfold placeT; rw [ht]
      have e3 : textT C.ts p = t.2.1 := by unfold textT; rw [ht]
      have E2 := Lib.hid e2
      have E3 := Lib.hid e3
      rw [hx] at c1
      obtain ⟨n, hn⟩ : ∃ n, C.ts.length = n := ⟨_, rfl⟩
      rw [hn] at c1 hp hl
      have Q : decide ((p : Int) < (n : Int)) = true := by simp; omega
      clear h ht e2 e3
      go_enter Tryz.func142, Tryz.ntmps142
      go_wp2_with fail
      go_quiet (fail)
      obtain ⟨W, hW⟩ : ∃ W, (((w.setCell ⟨C.pb, 3, none⟩ (.pointer (some ⟨w.heap.size, 0, none⟩))).alloc (.cells #[.int .i64 270, .int .i64 C.s.size, .string ⟨#[]⟩] 61)).drewN nq) = W := ⟨_, rfl⟩
      obtain ⟨b1, b2, b3⟩ := H.out.told _ _ _ W hW.symm
      rw [hW]
      have hgl : g < w.heap.size := World.block_lt_of_cell? w _ k0
      obtain ⟨f, hf⟩ : ∃ f, w.heap.size = f := ⟨_, rfl⟩
      rw [hf] at b1 b2 hgl hlt
      rw [hf]
      have B1 := Lib.hid b1
      have B2 := Lib.hid b2
      have B3 := Lib.hid b3
      have HF := Lib.hid hf
      have d0 : W.cell? ⟨C.pb, 1, none⟩ = some (.slice (some ⟨g, 0, none⟩) n C.c) := by simp only [World.cell?, b1]; simp [hx, hn]
      have d1 : W.cell? ⟨C.pb, 2, none⟩ = some (.int .i64 p) := by simp [World.cell?, b1]
      have d2 : W.cell? ⟨C.pb, 3, none⟩ = some (.pointer (some ⟨f, 0, none⟩)) := by simp [World.cell?, b1]
      have d3 : W.cell? ⟨g, p * 3 + 1, none⟩ = some (.string ⟨t.2.1.toArray⟩) := b3.cell (p := ⟨g, p * 3 + 1, none⟩) hgp k1
      have d4 : W.cell? ⟨g, p * 3 + 2, none⟩ = some (.int .i64 t.2.2) := b3.cell (p := ⟨g, p * 3 + 2, none⟩) hgp k2
      have d5 : W.cell? ⟨f, 1, none⟩ = some (.int .i64 C.s.size) := by simp [World.cell?, b2]
      have d6 : W.cell? ⟨f, 2, none⟩ = some (.string ⟨#[]⟩) := by simp [World.cell?, b2]
      have d7 : W.frozen? ⟨f, 1, none⟩ = false := by simp [World.frozen?, b2]
      have d8 : W.frozen? ⟨f, 2, none⟩ = false := by simp [World.frozen?, b2]
      have n1 : C.pb ≠ f := by omega
      have n2 : g ≠ f := by omega
      have f0 : ∀ v, (W.setCell ⟨f, 1, none⟩ v).cell? ⟨C.pb, 1, none⟩ = some (.slice (some ⟨g, 0, none⟩) n C.c) := fun v => (World.cell?_of_block (Below.heap_setCell W _ _ _ n1)).trans d0
      have f1 : ∀ v, (W.setCell ⟨f, 1, none⟩ v).cell? ⟨C.pb, 2, none⟩ = some (.int .i64 p) := fun v => (World.cell?_of_block (Below.heap_setCell W _ _ _ n1)).trans d1
      have f2 : ∀ v, (W.setCell ⟨f, 1, none⟩ v).cell? ⟨C.pb, 3, none⟩ = some (.pointer (some ⟨f, 0, none⟩)) := fun v => (World.cell?_of_block (Below.heap_setCell W _ _ _ n1)).trans d2
      have f3 : ∀ v, (W.setCell ⟨f, 1, none⟩ v).cell? ⟨g, p * 3 + 1, none⟩ = some (.string ⟨t.2.1.toArray⟩) := fun v => (World.cell?_of_block (Below.heap_setCell W _ _ _ n2)).trans d3
      clear b1 b2 b3 hf c0 c1 c2 c3 c4 c5 k0 k1 k2 hW
      go_wp2_with fail
      go_region
      go_wp2_with fail
      go_region
      go_wp2_with fail
      go_end0
      have O : Ow C.pb w ((W.setCell ⟨f, 1, none⟩ (.int .i64 t.2.2)).setCell ⟨f, 2, none⟩ (.string ⟨t.2.1.toArray⟩)) :=
        (B3.out.setCell (a := ⟨f, 1, none⟩) (.inr (Nat.le_of_eq HF.out)) _).setCell (a := ⟨f, 2, none⟩) (.inr (Nat.le_of_eq HF.out)) _
      have O1 : ((W.setCell ⟨f, 1, none⟩ (.int .i64 t.2.2)).setCell ⟨f, 2, none⟩ (.string ⟨t.2.1.toArray⟩)).heap[C.pb]? = _ :=
        (Below.heap_setCell _ _ _ _ n1).trans ((Below.heap_setCell _ _ _ _ n1).trans B1.out)
      have O2 : ((W.setCell ⟨f, 1, none⟩ (.int .i64 t.2.2)).setCell ⟨f, 2, none⟩ (.string ⟨t.2.1.toArray⟩)).heap[f]? = some (.cells #[.int .i64 270, .int .i64 (placeT C.ts C.s.size p), .string ⟨(textT C.ts p).toArray⟩] 61 (0, 0)) := by
        rw [E2.out, E3.out]
        simp only [World.setCell, Array.getElem?_modify, if_true, B2.out]
        rfl
      have O3 := O.drew.drew
      exact ⟨rfl, H.out.setBad O1 (Nat.le_of_eq HF.out) O2 O3, O3⟩

    · have hnone : C.ts[p]? = none := List.getElem?_eq_none (by omega)
      have e2 : placeT C.ts C.s.size p = C.s.size := by unfold placeT; rw [hnone]
      have e3 : textT C.ts p = [] := by unfold textT; rw [hnone]
      have E2 := Lib.hid e2
      have E3 := Lib.hid e3
      obtain ⟨n, hn⟩ : ∃ n, C.ts.length = n := ⟨_, rfl⟩
      rw [hn] at c1 hp hl
      have Q : decide ((p : Int) < (n : Int)) = false := by simp; omega
      clear h hnone hn e2 e3
      go_enter Tryz.func142, Tryz.ntmps142
      go_wp2_with fail
      go_quiet (fail)
      go_wp2_with fail
      go_end0
      obtain ⟨b1, b2, b3⟩ := H.out.told _ _ _ _ rfl
      exact ⟨rfl, H.out.setBad b1 (Nat.le_refl _) (by rw [E2.out, E3.out]; exact b2) b3, b3⟩

  · obtain ⟨g, c0, c1, c2, c3, _⟩ := h.cellsT
    have H := Lib.hid h
    clear h
    go_enter Tryz.func142, Tryz.ntmps142
    go_wp2_with fail
    refine bodyPost_ret (results_none rfl _ _ _) rfl ?_
    exact ⟨rfl, H.out, Ow.refl _ _⟩

set_option maxHeartbeats 4000000 in
set_option maxRecDepth 100000 in
theorem rtake_any (C : Ctx) (b : Bool) (p : Nat) (s : List UInt8) (w : World) (h : RSt C w b p) :
    Calls Tryz.prog 86 #[.pointer (some ⟨C.pb, 0, none⟩), .string ⟨s.toArray⟩] w fun e w' => ∃ b' p' a, Mt (Tot (takeP C.ts C.s.size s) b p) b' p' a ∧ e = .returned (.int .i64 (placeT C.ts C.s.size p)) ∧ RSt C w' b' p' ∧ Ow C.pb w w' := by
  have c0 := rplace_any C b p w h
  have c1 := fun w1 (hb : Below w.heap.size w w1) => ris_any C b p s w1 (h.below hb)
  have c2 := fun w1 (hb : Below w.heap.size w w1) => rfail_any C b p w1 (h.below hb)
  obtain ⟨q, hq⟩ : ∃ q, placeT C.ts C.s.size p = q := ⟨_, rfl⟩
  rw [hq] at c0 ⊢
  have hT : takeP C.ts C.s.size s p = if isT C.ts p s then .ok (placeT C.ts C.s.size p) (p + 1) else .bad p := rfl
  cases hB : (!b && isT C.ts p s)
  · have hM : Mt (Tot (takeP C.ts C.s.size s) b p) true p q := by
      cases b
      · rw [tot_go, hT, if_neg (by simpa using hB)]
        exact ⟨rfl, rfl⟩
      · exact ⟨rfl, rfl⟩
    rw [hB] at c1
    have HM := Lib.hid hM
    clear h hT hB hM
    go_enter Tryz.func86, Tryz.ntmps86
    go_wp2_with (first | (go_at_call 81; (with_reducible refine c0.mono ?_); rintro e w1 ⟨rfl, hb1⟩) | (go_at_call 82; (with_reducible refine (c1 _ hb1).mono ?_); rintro e w2 ⟨rfl, hb2⟩) | (go_at_call 142; (with_reducible refine (c2 _ (tr hb1 hb2)).mono ?_); rintro e w3 ⟨rfl, hs3, ho3⟩; have HS := Lib.hid hs3; clear hs3))
    go_ret
    exact ⟨true, p, q, HM.out, rfl, HS.out, (Ow.of_below (tr hb1 hb2)).trans ho3⟩
  · obtain ⟨rfl, hi⟩ : b = false ∧ isT C.ts p s = true := by
      cases b <;> simp_all
    have hp := isT_lt hi
    have hl := h.len
    have hM : Mt (Tot (takeP C.ts C.s.size s) false p) false (p + 1) q := by
      rw [tot_go, hT, if_pos hi]
      exact ⟨rfl, rfl, hq.symm⟩
    rw [hB] at c1
    have H := Lib.hid h
    have HM := Lib.hid hM
    have hS : ∀ w1, Below w.heap.size w w1 → w1.cell? ⟨C.pb, 2, none⟩ = some (.int .i64 p) ∧ w1.frozen? ⟨C.pb, 2, none⟩ = false ∧ Hid (RSt C w1 false p) := fun w1 hb => ⟨(h.below hb).cellsF.2.2.1, (h.below hb).cellsF.2.2.2.2.1, h.below hb⟩
    have X1 : IntKind.i64.wrap ((p : Int) + 1) = ((p + 1 : Nat) : Int) := by rw [IntWalk.i64_in _ (by omega)]; simp
    obtain ⟨n, hn⟩ : ∃ n, C.ts.length = n := ⟨_, rfl⟩
    have HN := Lib.hid hn
    rw [hn] at hp hl
    clear h hT hB hM hi hn c2
    go_enter Tryz.func86, Tryz.ntmps86
    go_wp2_with (first | (go_at_call 81; (with_reducible refine c0.mono ?_); rintro e w1 ⟨rfl, hb1⟩) | (go_at_call 82; (with_reducible refine (c1 _ hb1).mono ?_); rintro e w2 ⟨rfl, hb2⟩; obtain ⟨k1, k2, k3⟩ := hS w2 (tr hb1 hb2)))
    go_ret
    refine ⟨false, p + 1, q, HM.out, rfl, ?_, (Ow.of_below (tr hb1 hb2)).setCell (a := ⟨C.pb, 2, none⟩) (.inl rfl) _⟩
    exact k3.out.step (q := p + 1) (by rw [HN.out]; omega)

set_option maxHeartbeats 4000000 in
set_option maxRecDepth 100000 in
theorem rnameq_any (C : Ctx) (b : Bool) (p : Nat) (w : World) (h : RSt C w b p) :
    Calls Tryz.prog 83 #[.pointer (some ⟨C.pb, 0, none⟩)] w fun e w' => ∃ b' p' a, Mt (Tot (nameP C.ts) b p) b' p' a ∧ e = .returned (.string ⟨a.toArray⟩) ∧ RSt C w' b' p' ∧ Ow C.pb w w' := by
  have c0 := rnamed_any C b p w h
  have c2 := fun w1 (hb : Below w.heap.size w w1) => rfail_any C b p w1 (h.below hb)
  have hT : nameP C.ts p = if namedT C.ts p then .ok (textT C.ts p) (p + 1) else .bad p := rfl
  cases hB : (!b && namedT C.ts p)
  · have hM : Mt (Tot (nameP C.ts) b p) true p ([] : List UInt8) := by
      cases b
      · rw [tot_go, hT, if_neg (by simpa using hB)]
        exact ⟨rfl, rfl⟩
      · exact ⟨rfl, rfl⟩
    rw [hB] at c0
    have HM := Lib.hid hM
    clear h hT hB hM
    go_enter Tryz.func83, Tryz.ntmps83
    go_wp2_with (first | (go_at_call 141; (with_reducible refine c0.mono ?_); rintro e w1 ⟨rfl, hb1⟩) | (go_at_call 142; (with_reducible refine (c2 _ hb1).mono ?_); rintro e w3 ⟨rfl, hs3, ho3⟩; have HS := Lib.hid hs3; clear hs3))
    go_ret
    exact ⟨true, p, [], HM.out, rfl, HS.out, (Ow.of_below hb1).trans ho3⟩
  · obtain ⟨rfl, hi⟩ : b = false ∧ namedT C.ts p = true := by
      cases b <;> simp_all
    have hp := namedT_lt hi
    have hM : Mt (Tot (nameP C.ts) false p) false (p + 1) (textT C.ts p) := by
      rw [tot_go, hT, if_pos hi]
      exact ⟨rfl, rfl, rfl⟩
    rw [hB] at c0
    obtain ⟨t, ht⟩ : ∃ t, C.ts[p]? = some t := ⟨C.ts[p], List.getElem?_eq_getElem hp⟩
    have e2 : textT C.ts p = t.2.1 := by unfold textT; rw [ht]
    rw [e2] at hM
    have HM := Lib.hid hM
    have hl := h.len
    have X1 : IntKind.i64.wrap ((p : Int) + 1) = ((p + 1 : Nat) : Int) := by rw [IntWalk.i64_in _ (by omega)]; simp
    have X2 : IntKind.i64.wrap ((p : Int) + 1 - 1) = (p : Int) := by rw [IntWalk.i64_in _ (by omega)]; omega
    have X3 : IntKind.i64.wrap (p : Int) = (p : Int) := IntWalk.i64_in _ (by omega)
    obtain ⟨g, hx, _⟩ := h.row p t ht
    obtain ⟨n, hn⟩ : ∃ n, C.ts.length = n := ⟨_, rfl⟩
    have hS : ∀ w1, Below w.heap.size w w1 → w1.cell? ⟨C.pb, 2, none⟩ = some (.int .i64 p) ∧ w1.frozen? ⟨C.pb, 2, none⟩ = false ∧ w1.cell? ⟨C.pb, 1, none⟩ = some (.slice (some ⟨g, 0, none⟩) n C.c) ∧
        (w1.setCell ⟨C.pb, 2, none⟩ (.int .i64 ((p : Int) + 1))).cell? ⟨g, p * 3 + 1, none⟩ = some (.string ⟨t.2.1.toArray⟩) ∧ Hid (RSt C (w1.setCell ⟨C.pb, 2, none⟩ (.int .i64 ((p : Int) + 1))) false (p + 1)) := fun w1 hb => by
      have h1 := h.below hb
      have h2 : RSt C (w1.setCell ⟨C.pb, 2, none⟩ (.int .i64 ((p : Int) + 1))) false (p + 1) := h1.step hp
      obtain ⟨g', hx', j0, j1, j2⟩ := h2.row p t ht
      rw [hx] at hx'
      cases hx'
      refine ⟨h1.cellsF.2.2.1, h1.cellsF.2.2.2.2.1, ?_, j1, h2⟩
      rw [← hx, ← hn]
      exact h1.cellsF.2.1
    rw [hn] at hp hl
    clear h hT hB hM hi ht e2 hx hn c2
    go_enter Tryz.func83, Tryz.ntmps83
    go_wp2_with (first | (go_at_call 141; (with_reducible refine c0.mono ?_); rintro e w1 ⟨rfl, hb1⟩; obtain ⟨k1, k2, k3, k4, k5⟩ := hS w1 hb1))
    go_quiet (fail)
    go_wp2
    go_ret
    exact ⟨false, p + 1, _, HM.out, rfl, (k5.out.below (bdn (Below.refl _ _) _)), ((Ow.of_below hb1).setCell (a := ⟨C.pb, 2, none⟩) (.inl rfl) _).drewN _⟩
end Go.Proofs.YtpbkeamjdolpgaaGreatDoor
namespace Go.Proofs.YtpbkeamjdolpgaaGreatDoor
open Go.RowKit Go.Lib

def loopR (ts : List Tk) (L : Nat) (one : Nat → Res Nd) (e : List UInt8) (E b : Bool) (acc : List Nd) (f p : Nat) : Res (List Nd) :=
  if b then .bad p else if E then .ok acc (p + 1) else (one p).bind fun x q => rowM ts L one f e (acc ++ [x]) q
theorem loop_in (ts : List Tk) (L : Nat) (one : Nat → Res Nd) (e : List UInt8) (b : Bool) (f p : Nat) : Tot (rowG ts L one f e) b p = loopR ts L one e (!b && isT ts p e) b [] f p := by
  cases b
  · unfold loopR rowG
    rw [tot_go]
    cases isT ts p e <;> rfl
  · rfl
theorem loop_one {ts : List Tk} {L : Nat} {one : Nat → Res Nd} {e : List UInt8} {acc : List Nd} {f p q : Nat} {b : Bool} {x : Nd} (h : Mt (one p) b q x) : loopR ts L one e false false acc f p = Tot (rowM ts L one f e (acc ++ [x])) b q := by
  unfold loopR
  rw [if_neg (by decide), if_neg (by decide)]
  exact h.bind _
theorem loop_step {ts : List Tk} {L : Nat} {one : Nat → Res Nd} {e : List UInt8} {acc : List Nd} {f p q : Nat} {b : Bool} {x : Nd} (h : Mt (one p) b q x) (hne : loopR ts L one e false false acc f p ≠ .out) :
    ((!b && isT ts q e) = true → ∃ f', f = f' + 1 ∧ loopR ts L one e false false acc f p = loopR ts L one e true b (acc ++ [x]) f' q) ∧
    ((!b && isT ts q e) = false → ∀ b' r a, Mt (Tot (takeP ts L [44]) b q) b' r a → ∃ f', (b' = true ∨ f = f' + 1) ∧ loopR ts L one e false false acc f p = loopR ts L one e false b' (acc ++ [x]) f' r) := by
  rw [loop_one h] at hne ⊢
  cases b
  · rw [tot_go] at hne ⊢
    cases f with
    | zero => exact absurd rfl hne
    | succ f' =>
      refine ⟨fun hi => ⟨f', rfl, ?_⟩, fun hi b' r a ht => ⟨f', .inr rfl, ?_⟩⟩
      · have hi' : isT ts q e = true := by simpa using hi
        unfold rowM loopR
        rw [if_pos hi', if_neg (by decide), if_pos rfl]
      · have hi' : ¬ isT ts q e = true := by simpa using hi
        rw [tot_go] at ht
        rw [rowM, if_neg hi', ht.bind]
        unfold loopR Tot
        cases b' <;> rfl
  · refine ⟨fun hi => by simp at hi, fun _ b' r a ht => ?_⟩
    obtain ⟨rfl, rfl⟩ := ht
    exact ⟨f, .inl rfl, rfl⟩
theorem loop_out {ts : List Tk} {L : Nat} {one : Nat → Res Nd} {e : List UInt8} {acc : List Nd} {f p : Nat} {E b : Bool} (hE : (!E && !b) = false) (hi : E = true → b = false → isT ts p e = true) {b' : Bool} {p' a : Nat} (ht : Mt (Tot (takeP ts L e) b p) b' p' a) :
    Mt (loopR ts L one e E b acc f p) b' p' acc := by
  cases b
  · cases E
    · simp at hE
    · have h1 := hi rfl rfl
      rw [tot_go, takeP, if_pos h1] at ht
      obtain ⟨rfl, rfl, _⟩ := ht
      exact ⟨rfl, rfl, rfl⟩
  · obtain ⟨rfl, rfl⟩ := ht
    exact ⟨rfl, rfl⟩
end Go.Proofs.YtpbkeamjdolpgaaGreatDoor
namespace Go.Proofs.YtpbkeamjdolpgaaGreatDoor
open Go.RowKit Go.Lib Go.Shelf

set_option maxHeartbeats 4000000 in
set_option maxRecDepth 100000 in
theorem rsignq_any (C : Ctx) (b : Bool) (p k : Nat) (hk : k < 5) (w : World) (h : RSt C w b p) :
    Calls Tryz.prog 182 #[.pointer (some ⟨C.pb, 0, none⟩), .int .i64 k] w fun e w' => e = .returned (.bool (!b && anyT C.ts p (signsK k))) ∧ Below w.heap.size w w' := by
  obtain ⟨R, hR⟩ : ∃ R, (!b && anyT C.ts p (signsK k)) = R := ⟨_, rfl⟩
  rw [hR]
  have HR := Lib.hid hR
  have c1 := rsigns_any k hk w
  have hlen := signsK_len6 k hk
  unfold SgEnd at c1
  have hb0 : ∀ w1 u, Below w.heap.size w w1 → Calls Tryz.prog 82 #[.pointer (some ⟨C.pb, 0, none⟩), .string ⟨u.toArray⟩] w1 fun e w' => e = .returned (.bool (!b && isT C.ts p u)) ∧ Below w1.heap.size w1 w' := fun w1 u hb => ris_any C b p u w1 (h.below hb)
  clear h hR
  obtain ⟨l, hl⟩ : ∃ l, signsK k = l := ⟨_, rfl⟩
  rw [hl] at c1 hlen HR
  obtain ⟨n, hn⟩ : ∃ n, l.length = n := ⟨_, rfl⟩
  rw [hn] at c1 hlen
  have HN := Lib.hid hn
  clear hl hn hk
  go_enter Tryz.func182, Tryz.ntmps182
  go_wp2_with fail
  refine c1.mono ?_
  clear c1
  rintro e w2 ⟨rfl, hb2, hst⟩
  have HST := Lib.hid hst
  have HB2 := Lib.hid hb2
  have HS2 : Hid (w.heap.size ≤ w2.heap.size) := hb2.size
  clear hst hb2
  generalize w.heap.size = g at HST ⊢
  go_wp2_with fail
  go_loopw [6] (fun v wx => ∃ j : Nat, v = .int .i64 j ∧ j ≤ n ∧ Below w2.heap.size w2 wx ∧ Hid (∀ u, u ∈ l.take j → (!b && isT C.ts p u) = false)) (fun v _ => n - (RowKit.intOf v).toNat)
  case atStart => exact ⟨0, rfl, Nat.zero_le _, Below.refl _ _, fun u hu => by simp at hu⟩
  case round =>
    obtain ⟨j, rfl, hj, hb, hs⟩ := hrel
    by_cases hjn : j < n
    · obtain ⟨u, hu⟩ : ∃ u, l[j]? = some u := ⟨l[j]'(by have := HN.out; omega), List.getElem?_eq_getElem _⟩
      have kk := (HST.out.below hb) j u hu
      rw [Nat.zero_add] at kk
      have c2 := hb0 wr u (HB2.out.trans (hb.mono HS2.out))
      have Qj : IntKind.i64.wrap ((j : Int) + 1) = (j : Int) + 1 := IntWalk.i64_in _ (by omega)
      have hjn' : (j : Int) < (n : Int) := by omega
      have hBw : Hid (∀ w3, Below wr.heap.size wr w3 → Below w2.heap.size w2 w3) := fun w3 h3 => tr hb h3
      cases hi : (!b && isT C.ts p u)
      · rw [hi] at c2
        have hs2 : Hid (∀ v, v ∈ l.take (j + 1) → (!b && isT C.ts p v) = false) := by
          intro v hv
          rw [List.take_add_one, hu] at hv
          rcases List.mem_append.1 hv with hv | hv
          · exact hs.out v hv
          · simp at hv
            subst hv
            exact hi
        clear hu hs hi hb
        go_wp2_with fail
        refine c2.mono ?_
        clear c2
        rintro e w3 ⟨rfl, hb3⟩
        have HB3 := Lib.hid (hBw.out w3 hb3)
        clear hb3
        go_wp2_with fail
        go_roundw
        case rel => exact ⟨j + 1, by go_num, by omega, HB3.out, hs2⟩
        case measure => simp [RowKit.intOf]; omega
      · rw [hi] at c2
        have hm : Hid (R = true) := by
          show R = true
          rw [← HR.out]
          simp only [Bool.and_eq_true] at hi ⊢
          refine ⟨hi.1, ?_⟩
          unfold anyT
          exact List.any_eq_true.2 ⟨u, List.mem_of_getElem? hu, hi.2⟩
        clear hu hs hi hb
        go_wp2_with fail
        refine c2.mono ?_
        clear c2
        rintro e w3 ⟨rfl, hb3⟩
        have HB3 := Lib.hid (hBw.out w3 hb3)
        clear hb3
        go_wp2_with fail
        go_ret
        exact ⟨by rw [hm.out]; rfl, HB2.out.trans (HB3.out.mono HS2.out)⟩
    · have hm : Hid (R = false) := by
        show R = false
        rw [← HR.out]
        have := hs.out
        rw [List.take_of_length_le (by have := HN.out; omega)] at this
        cases b
        · simp only [Bool.not_false, Bool.true_and] at this ⊢
          unfold anyT
          exact List.any_eq_false.2 fun u hu => by simp [this u hu]
        · rfl
      have HB3 := Lib.hid hb
      have hjn' : ¬ (j : Int) < (n : Int) := by omega
      clear hs hb
      go_wp2_with fail
      go_ret
      exact ⟨by rw [hm.out]; rfl, HB2.out.trans (HB3.out.mono HS2.out)⟩
end Go.Proofs.YtpbkeamjdolpgaaGreatDoor
namespace Go.Proofs.YtpbkeamjdolpgaaGreatDoor
open Go.RowKit Go.Lib Go.Shelf

theorem RSt.turn {C : Ctx} {w w' : World} {b : Bool} {p v : Nat} (h : RSt C w b p) (h0 : ∀ (g i : Nat) (u : Tk), C.ts[i]? = some u → C.x = some ⟨g, 0, none⟩ → g ≠ v) (hv : C.pb ≠ v) {xs : Array Value} {t : TypeId} {f : Nat × Nat} (ht : w.heap[v]? = some (.cells xs t f)) (hne : t ≠ 61)
    (hk : ∀ k, k < w.heap.size → k ≠ v → w'.heap[k]? = w.heap[k]?) : RSt C w' b p := by
  obtain ⟨a, h1, h2, h3⟩ := h.blk
  refine ⟨⟨a, (hk _ h.lt hv).trans h1, h2, fun e => ?_⟩, ?_, h.xne, h.le, h.len⟩
  · obtain ⟨g, k1, k2, k3⟩ := h3 e
    refine ⟨g, k1, k2, (hk g (Array.getElem?_eq_some_iff.1 k3).1 ?_).trans k3⟩
    intro e2
    subst e2
    rw [ht] at k3
    simp only [Option.some.injEq, Obj.cells.injEq] at k3
    exact hne k3.2.1
  · intro i u hu
    obtain ⟨g, j1, j2, j3, j4⟩ := h.row i u hu
    have hg : g < w.heap.size := World.block_lt_of_cell? w _ j2
    have hn := h0 g i u hu j1
    exact ⟨g, j1, (World.cell?_of_block (hk g hg hn)).trans j2, (World.cell?_of_block (hk g hg hn)).trans j3, (World.cell?_of_block (hk g hg hn)).trans j4⟩
theorem RSt.xlt {C : Ctx} {w : World} {b : Bool} {p : Nat} (h : RSt C w b p) : ∀ (g i : Nat) (u : Tk), C.ts[i]? = some u → C.x = some ⟨g, 0, none⟩ → g < w.heap.size := by
  intro g i u hu hx
  obtain ⟨g', j1, j2, _⟩ := h.row i u hu
  rw [hx] at j1
  cases j1
  exact World.block_lt_of_cell? w _ j2
theorem app_step {C : Ctx} {w w5 W w6 : World} {b : Bool} {p B S : Nat} {v v' : Value} {acc : List Nd} {k : Int} {n : List UInt8} {kids : List Nd} {pp : Int} {y : Option Addr} {c : Cp kids.length} {xs : List Value}
    (hx : ∀ (g i : Nat) (u : Tk), C.ts[i]? = some u → C.x = some ⟨g, 0, none⟩ → g < B) (hpb : C.pb < B) (hs : RSt C w5 b p) (ho : Ow C.pb w w5) (hwB : w.heap.size ≤ B) (hW : Below w5.heap.size w5 W)
    (hown : w5.ownsRow B 53 4 v acc.length xs) (hf : NFlat w5 (fun j => B ≤ j ∧ some j ≠ v.ownBlock) acc xs) (hk : NdRow w5 (fun j => S ≤ j) kids y) (hS : ∀ j, v.ownBlock = some j → j < S) (hBS : B ≤ S)
    (hown' : w6.ownsRow B 53 4 v' (acc.length + 1) (xs ++ [.int .i64 k, .string ⟨n.toArray⟩, .slice y kids.length c, .int .i64 pp])) (hgrow : W.grownBy w6 v.ownBlock) (hfresh : v'.ownBlock = v.ownBlock ∨ ∀ k, v'.ownBlock = some k → W.heap.size ≤ k) :
    RSt C w6 b p ∧ RowOwn w6 B v' (acc ++ [.mk k n kids pp]) ∧ Ow C.pb w w6 := by
  have hlt := fun j hj => hown.lt j hj
  refine ⟨?_, ?_, ((ho.below hW).grown hgrow fun j hj => Nat.le_trans hwB (hlt j hj).1)⟩
  · have hs1 := hs.below hW
    cases hv : v.ownBlock with
    | none => exact hs1.below ⟨hgrow.os, hgrow.tape, hgrow.output, hgrow.size, fun j hj => hgrow.block j hj (by rw [hv]; simp)⟩
    | some g =>
      have hg := hlt g hv
      obtain ⟨cur, hc⟩ : ∃ cur, w5.heap[g]? = some (.cells cur 53 (0, 0)) := by
        rcases hown.2 with ⟨rfl, _⟩ | ⟨g', cap, cur, rfl, _, h6, _⟩
        · simp [Value.ownBlock] at hv
        · simp [Value.ownBlock] at hv
          subst hv
          exact ⟨cur, h6⟩
      exact hs1.turn (fun g' i u hu hx' => by have := hx g' i u hu hx'; omega) (by omega) ((hW.block g hg.2).trans hc) (by decide) fun j hj hn => hgrow.block j hj (by rw [hv]; intro e; cases e; exact hn rfl)
  · refine RowOwn.snoc (a := [.int .i64 k, .string ⟨n.toArray⟩, .slice y kids.length c, .int .i64 pp]) (NFlat.mono (fun b h1 _ => h1) (fun b _ h2 => hW.block b h2) hf) ⟨y, c, rfl, ?_⟩ hown' hgrow hfresh
    exact NdRow.mono (fun b h1 _ => ⟨Nat.le_trans hBS h1, fun e => by have := hS b e.symm; omega⟩) (fun b _ h2 => hW.block b h2) _ _ hk

def RFinN (C : Ctx) (w : World) (one : Nat → Res Nd) (b : Bool) (p : Nat) (e : Ending) (w' : World) : Prop :=
  ∃ b' p' k n, ∃ kids : List Nd, ∃ pp y, ∃ c : Cp kids.length, Mt (Tot one b p) b' p' (.mk k n kids pp) ∧ e = .returned (.agg #[.int .i64 k, .string ⟨n.toArray⟩, .slice y kids.length c, .int .i64 pp]) ∧ NdRow w' (fun j => w.heap.size ≤ j) kids y ∧ RSt C w' b' p' ∧ Ow C.pb w w'
def RFinR (C : Ctx) (w : World) (row : Nat → Res (List Nd)) (b : Bool) (p : Nat) (e : Ending) (w' : World) : Prop :=
  ∃ b' p' l v, Mt (Tot row b p) b' p' l ∧ e = .returned v ∧ RowOwn w' w.heap.size v l ∧ RSt C w' b' p' ∧ Ow C.pb w w'
abbrev ROne (C : Ctx) (F : Nat) (R : Nat → Res Nd) : Prop := ∀ w b p, RSt C w b p → Tot R b p ≠ .out → Calls Tryz.prog F #[.pointer (some ⟨C.pb, 0, none⟩)] w (RFinN C w R b p)
abbrev ROneQ (C : Ctx) (F : Nat) (R : Nat → Res Nd) : Prop := ∀ w b p, RSt C w b p → Tot R b p ≠ .out → (∃ q, R q ≠ .out) → Calls Tryz.prog F #[.pointer (some ⟨C.pb, 0, none⟩)] w (RFinN C w R b p)
theorem Mt.ret {A : Type} (x : A) (b : Bool) (p : Nat) : Mt (Tot (fun q => .ok x q) b p) b p x := by
  cases b
  · exact ⟨rfl, rfl, rfl⟩
  · exact ⟨rfl, rfl⟩
theorem tot_if_t {A : Type} {ts : List Tk} {s : List UInt8} {b : Bool} {p : Nat} (h : (!b && isT ts p s) = true) (R S : Nat → Res A) : Tot (fun q => if isT ts q s then R q else S q) b p = Tot R b p := by
  cases b
  · simp at h
    simp [Tot, h]
  · simp at h
theorem tot_if_f {A : Type} {ts : List Tk} {s : List UInt8} {b : Bool} {p : Nat} (h : (!b && isT ts p s) = false) (R S : Nat → Res A) : Tot (fun q => if isT ts q s then R q else S q) b p = Tot S b p := by
  cases b
  · simp at h
    simp [Tot, h]
  · rfl
theorem Mt.place {ts : List Tk} {L : Nat} {s : List UInt8} {b b' : Bool} {p p' a : Nat} (h : Mt (Tot (takeP ts L s) b p) b' p' a) : Mt (Tot (takeP ts L s) b p) b' p' (placeT ts L p) := by
  cases b
  · rw [tot_go] at h ⊢
    unfold takeP at h ⊢
    cases hi : isT ts p s
    · rw [hi] at h
      exact h
    · rw [hi] at h
      exact ⟨h.1, h.2.1, rfl⟩
  · exact h
end Go.Proofs.YtpbkeamjdolpgaaGreatDoor
namespace Go.Proofs.YtpbkeamjdolpgaaGreatDoor
open Go.RowKit Go.Lib Go.Shelf

set_option maxHeartbeats 4000000 in
set_option maxRecDepth 100000 in
theorem rlist_any (C : Ctx) (ex : Nat → Res Nd) (hx : ROneQ C 87 ex) (f : Nat) (hf : f ≤ 8192) (s : List UInt8) (b : Bool) (p : Nat) (w : World) (h : RSt C w b p) (hne : Tot (rowG C.ts C.s.size ex f s) b p ≠ .out) :
    Calls Tryz.prog 144 #[.pointer (some ⟨C.pb, 0, none⟩), .string ⟨s.toArray⟩] w (RFinR C w (rowG C.ts C.s.size ex f s) b p) := by
  have hL := loop_in C.ts C.s.size ex s b f p
  unfold RFinR
  obtain ⟨R, hR⟩ : ∃ R, Tot (rowG C.ts C.s.size ex f s) b p = R := ⟨_, rfl⟩
  rw [hR] at hL hne ⊢
  have c0 := ris_any C b p s w h
  have hEi : (!b && isT C.ts p s) = true → b = false → isT C.ts p s = true := by
    intro h1 _
    simp only [Bool.and_eq_true] at h1
    exact h1.2
  obtain ⟨E, hE⟩ : ∃ E, (!b && isT C.ts p s) = E := ⟨_, rfl⟩
  rw [hE] at hL c0 hEi
  have H0 := Lib.hid h
  have HN := Lib.hid hne
  have HL := Lib.hid hL
  have HE := Lib.hid hEi
  have hpb := h.lt
  have HX0 := Lib.hid h.xlt
  clear hR hL hne hEi h hE
  go_enter Tryz.func144, Tryz.ntmps144
  go_wp2_with fail
  refine c0.mono ?_
  clear c0
  rintro e1 w1 ⟨rfl, hb1⟩
  have HB1 := Lib.hid hb1
  clear hb1
  go_wp2_with fail
  go_loopg [5, 6] (f + 1) (fun g v u wx => ∃ (acc : List Nd) (E b : Bool) (q f0 : Nat), u = .bool E ∧ RowOwn wx w.heap.size v acc ∧ RSt C wx b q ∧ Ow C.pb w wx ∧ Hid (R = loopR C.ts C.s.size ex s E b acc f0 q) ∧ Hid (E = true → b = false → isT C.ts q s = true) ∧ acc.length + g ≤ f + 1 ∧ (b = true ∨ f0 + 1 ≤ g))
  case atStart => exact ⟨[], E, b, p, f, rfl, RowOwn.nil _ _, H0.out.below HB1.out, Ow.of_below HB1.out, HL.out, HE.out, by simp, .inr (Nat.le_refl _)⟩
  case round =>
    clear HB1 HL HE
    obtain ⟨acc, E, b, q, f0, rfl, hrow, hs, ho, hS, hE, hlen, hf0⟩ := hrel
    obtain ⟨va, vc, rfl, hca, _⟩ := hrow.shape
    have hexit : (!E && !b) = false → Hid (Calls Tryz.prog 86 #[.pointer (some ⟨C.pb, 0, none⟩), .string ⟨s.toArray⟩] wr fun e w' => ∃ b' p', Mt R b' p' acc ∧ (∃ a : Nat, e = .returned (.int .i64 a)) ∧ RowOwn w' w.heap.size (.slice va acc.length vc) acc ∧ RSt C w' b' p' ∧ Ow C.pb w w') := fun hx => by
      refine (rtake_any C b q s wr hs).mono ?_
      rintro e w' ⟨b', p', a, hM, rfl, h1, h2⟩
      refine ⟨b', p', ?_, ⟨_, rfl⟩, hrow.ow h2 hpb, h1, ho.trans h2⟩
      rw [hS.out]
      exact loop_out hx hE.out hM
    cases E
    · cases b
      · obtain ⟨c0, c1, c2, c3, _⟩ := hs.cellsF
        clear hexit hE
        have hne1 : Tot ex false q ≠ .out := fun e1 => HN.out (by
          rw [hS.out]
          unfold loopR
          rw [if_neg (by decide), if_neg (by decide), show ex q = .out from e1]
          rfl)
        have c4 := hx wr false q hs hne1 ⟨q, hne1⟩
        obtain ⟨i0, hi0, hz0, hz1, hz2⟩ := info_parts Tryz.infoNode
        have HROW := Lib.hid hrow
        have HO := Lib.hid ho
        have HX := Lib.hid hx
        have hal : acc.length ≤ 8193 := by omega
        have hf1 : f0 + 1 ≤ gk := hf0.resolve_left (by decide)
        have HLT : Hid (∀ j, (Value.slice va acc.length vc).ownBlock = some j → j < wr.heap.size) := by
          obtain ⟨xs0, h1, _⟩ := hrow
          exact fun j hj => (h1.lt j hj).2
        have hwsz := ho.size
        clear hrow ho hx hne1 hs
        go_wp2_with fail
        refine c4.mono ?_
        clear c4 c0 c1 c2 c3
        rintro e3 w5 ⟨b5, q5, k, n, kids, pp, y, c, hM5, rfl, hk5, hs5, ho5⟩
        go_wp2_with (at_builtin; obtain ⟨xs, hown5, hfl5⟩ := HROW.out.ow ho5 hpb; refine wpList_append_fresh _ rfl (.tmp 22) (.tmp 24) 22 rfl (w.heap.size) 53 i0 (.agg #[.int .i64 0, .string ⟨#[]⟩, .slice none 0 0, .int .i64 0]) 4 56 Tryz.underlying22 hi0 hz0 hz1 hz2 rfl (by decide) _ _ _ rfl ((hown5.alloc _).alloc _) ⟨w5.heap.size + 1, 0, none⟩ 1 1 [.int .i64 k, .string ⟨n.toArray⟩, .slice y kids.length c, .int .i64 pp] rfl rfl (by rw [show (w5.heap.size + 1) = (w5.alloc (.cells #[.int .i64 k, .string ⟨n.toArray⟩, .slice y kids.length c, .int .i64 pp] 53)).heap.size by simp]; exact cell_four_new _ _ _ _ _ _) (fun x hx => by simp at hx; rcases hx with rfl | rfl | rfl | rfl <;> rfl) (by unfold maxLen; omega) (by omega) (by have := ho5.size; simp; omega) ?_; intro v' w6 hown' hgrow hfresh)
        obtain ⟨hs6, hr6, ho6⟩ := app_step (HX0.out) hpb hs5 (HO.out.trans ho5) (Nat.le_refl _) (((Below.refl _ _).alloc (Nat.le_refl _) _).alloc (by simp) _) hown5 hfl5 hk5 HLT.out hwsz hown' hgrow hfresh
        have hst := loop_step (ts := C.ts) (L := C.s.size) (e := s) (acc := acc) (f := f0) (one := ex) (show Mt (ex q) b5 q5 _ from hM5) (by rw [← hS.out]; exact HN.out)
        have c6 := ris_any C b5 q5 s w6 hs6
        have c7 := fun w7 (hb : Below w6.heap.size w6 w7) => rtake_any C b5 q5 [44] w7 (hs6.below hb)
        have HST := Lib.hid hst
        have HR6 := Lib.hid hr6
        have HO6 := Lib.hid ho6
        have HS6 := Lib.hid hs6
        clear hown' hgrow hfresh hst hr6 ho6 hs6 hown5 hfl5 hk5 hs5
        go_wp2_with fail
        refine c6.mono ?_
        clear c6
        rintro e7 w7 ⟨rfl, hb7⟩
        cases hi : (!b5 && isT C.ts q5 s)
        · have c8 := c7 w7 hb7
          clear c7
          go_wp2_with fail
          refine c8.mono ?_
          clear c8
          rintro e8 w8 ⟨b8, q8, a8, hM8, rfl, hs8, ho8⟩
          have HS8 := Lib.hid hs8
          have HO8 := Lib.hid ((Ow.of_below hb7).trans ho8)
          obtain ⟨g', hg', hR8⟩ := HST.out.2 hi b8 q8 a8 hM8
          have HR8 := Lib.hid hR8
          clear hs8 hM8 hR8 ho8
          have hf8 : b8 = true ∨ g' + 1 ≤ gk - 1 := hg'.imp id fun e => by omega
          clear hg' hf0
          go_wp2_with fail
          go_roundg (gk - 1)
          case measure => omega
          case rel => exact ⟨acc ++ [.mk k n kids pp], false, b8, q8, g', rfl, HR6.out.ow HO8.out hpb, HS8.out, HO6.out.trans HO8.out, Lib.hid (hS.out.trans HR8.out), Lib.hid (fun e => nomatch e), by simp; omega, hf8⟩
        · clear c7
          obtain ⟨g', hg', hR8⟩ := HST.out.1 hi
          have HR8 := Lib.hid hR8
          have hi2 : isT C.ts q5 s = true := by
            simp only [Bool.and_eq_true] at hi
            exact hi.2
          have HI := Lib.hid hi2
          clear hR8 hi2 hf0
          go_wp2_with fail
          go_roundg (gk - 1)
          case measure => omega
          case rel => exact ⟨acc ++ [.mk k n kids pp], true, b5, q5, g', rfl, HR6.out.below hb7, HS6.out.below hb7, HO6.out.below hb7, Lib.hid (hS.out.trans HR8.out), Lib.hid (fun _ _ => HI.out), by simp; omega, .inr (by omega)⟩
      · obtain ⟨g0, c0, c1, c2, c3, _⟩ := hs.cellsT
        have ht := hexit rfl
        clear hexit hrow hs ho hS hE
        go_wp2_with fail
        refine ht.out.mono ?_
        clear ht
        rintro e3 w3 ⟨b', p', hM, ⟨a, rfl⟩, h1, h2, h3⟩
        have H1 := Lib.hid h1
        have H2 := Lib.hid h2
        have H3 := Lib.hid h3
        have HM := Lib.hid hM
        clear h1 h2 h3 hM
        go_wp2_with fail
        go_ret
        exact ⟨b', p', acc, _, HM.out, rfl, H1.out, H2.out, H3.out⟩
    · have ht := hexit rfl
      clear hexit hrow hs ho hS hE
      go_wp2_with fail
      refine ht.out.mono ?_
      clear ht
      rintro e3 w3 ⟨b', p', hM, ⟨a, rfl⟩, h1, h2, h3⟩
      have H1 := Lib.hid h1
      have H2 := Lib.hid h2
      have H3 := Lib.hid h3
      have HM := Lib.hid hM
      clear h1 h2 h3 hM
      go_wp2_with fail
      go_ret
      exact ⟨b', p', acc, _, HM.out, rfl, H1.out, H2.out, H3.out⟩
end Go.Proofs.YtpbkeamjdolpgaaGreatDoor
namespace Go.Proofs.YtpbkeamjdolpgaaGreatDoor
open Go.RowKit Go.Lib Go.Shelf

theorem rtake_x (C : Ctx) (b : Bool) (p : Nat) (s : List UInt8) (w : World) (h : RSt C w b p) (X : World → Prop) (hX : ∀ w', Ow C.pb w w' → X w') :
    Calls Tryz.prog 86 #[.pointer (some ⟨C.pb, 0, none⟩), .string ⟨s.toArray⟩] w fun e w' => ∃ b' p', Mt (Tot (takeP C.ts C.s.size s) b p) b' p' (placeT C.ts C.s.size p) ∧ e = .returned (.int .i64 (placeT C.ts C.s.size p)) ∧ RSt C w' b' p' ∧ Ow C.pb w w' ∧ X w' :=
  (rtake_any C b p s w h).mono fun _ _ ⟨b', p', _, h1, h2, h3, h4⟩ => ⟨b', p', h1.place, h2, h3, h4, hX _ h4⟩
theorem rrow_x {C : Ctx} {F : Nat} {args : Array Value} {w : World} {R : Nat → Res (List Nd)} {b : Bool} {p : Nat} (h : Calls Tryz.prog F args w (RFinR C w R b p)) (X : World → Prop) (hX : ∀ w', Ow C.pb w w' → X w') :
    Calls Tryz.prog F args w fun e w' => ∃ b' p', ∃ l : List Nd, ∃ y, ∃ c : Cp l.length, Mt (Tot R b p) b' p' l ∧ e = .returned (.slice y l.length c) ∧ NdRow w' (fun j => w.heap.size ≤ j) l y ∧ RSt C w' b' p' ∧ Ow C.pb w w' ∧ X w' :=
  h.mono fun _ _ ⟨b', p', l, v, h1, h2, h3, h4, h5⟩ => by
    obtain ⟨y, c, rfl, hc, h6⟩ := h3.shape
    exact ⟨b', p', l, y, ⟨c, hc⟩, h1, h2, h6, h4, h5, hX _ h5⟩
theorem set4_oth {w : World} {b q : Nat} {u0 u1 u2 u3 : Value} (h : q ≠ b) : ((((w.setCell ⟨b, 0, none⟩ u0).setCell ⟨b, 1, none⟩ u1).setCell ⟨b, 2, none⟩ u2).setCell ⟨b, 3, none⟩ u3).heap[q]? = w.heap[q]? := by
  rw [Below.heap_setCell _ _ _ _ h, Below.heap_setCell _ _ _ _ h, Below.heap_setCell _ _ _ _ h, Below.heap_setCell _ _ _ _ h]
theorem RSt.node {C : Ctx} {w0 w w' : World} {b b0 : Bool} {p p0 nb : Nat} (h0 : RSt C w0 b0 p0) (h : RSt C w b p) (hn : w0.heap.size ≤ nb) {v0 v1 v2 v3 : Value} (hB : Box4 w nb v0 v1 v2 v3) (hk : ∀ k, k ≠ nb → w'.heap[k]? = w.heap[k]?) : RSt C w' b p :=
  h.turn (fun g i u hu hx => by have := h0.xlt g i u hu hx; omega) (by have := h0.lt; omega) hB (by decide) fun k _ hn => hk k hn
theorem RSt.node1 {C : Ctx} {w0 w : World} {b b0 : Bool} {p p0 nb o : Nat} (h0 : RSt C w0 b0 p0) (h : RSt C w b p) (hn : w0.heap.size ≤ nb) {v v0 v1 v2 v3 : Value} (hB : Box4 w nb v0 v1 v2 v3) : RSt C (w.setCell ⟨nb, o, none⟩ v) b p :=
  h0.node h hn hB fun k hk => Below.heap_setCell w _ v k hk
theorem RSt.node4 {C : Ctx} {w0 w : World} {b b0 : Bool} {p p0 nb : Nat} (h0 : RSt C w0 b0 p0) (h : RSt C w b p) (hn : w0.heap.size ≤ nb) {u0 u1 u2 u3 v0 v1 v2 v3 : Value} (hB : Box4 w nb v0 v1 v2 v3) : RSt C ((((w.setCell ⟨nb, 0, none⟩ u0).setCell ⟨nb, 1, none⟩ u1).setCell ⟨nb, 2, none⟩ u2).setCell ⟨nb, 3, none⟩ u3) b p :=
  h0.node h hn hB fun _ hk => set4_oth hk

set_option maxHeartbeats 4000000 in
set_option maxRecDepth 100000 in
theorem rargs_any (C : Ctx) (ex : Nat → Res Nd) (hx : ROneQ C 87 ex) (f : Nat) (hf : f ≤ 8192) : ROne C 88 (argsO C.ts C.s.size ex f) := by
  intro w b p h hne
  have hpb := h.lt
  obtain ⟨R, hR⟩ : ∃ R, Tot (argsO C.ts C.s.size ex f) b p = R := ⟨_, rfl⟩
  have hT : R = (Tot (takeP C.ts C.s.size [40]) b p).bind fun a q => (rowG C.ts C.s.size ex f [41] q).bind fun l r => .ok (.mk 8 [] l a) r := by
    rw [← hR, ← tot_bind]
    rfl
  unfold RFinN
  rw [hR] at hne ⊢
  have HT := Lib.hid hT
  have HNE := Lib.hid hne
  have H0 := Lib.hid h
  have HHX := Lib.hid hx
  have hsz1 := World.size_alloc w zNode
  have hA : Below w.heap.size w ((w.alloc zNode).alloc (.cells #[.int .i64 8, .string ⟨#[]⟩, .slice none 0 0, .int .i64 0] 53)) := ((Below.refl _ _).alloc (Nat.le_refl _) _).alloc (by simp) _
  have HA := Lib.hid hA
  have B0 : Box4 ((w.alloc zNode).alloc (.cells #[.int .i64 8, .string ⟨#[]⟩, .slice none 0 0, .int .i64 0] 53)) w.heap.size (.int .i64 0) (.string ⟨#[]⟩) (.slice none 0 0) (.int .i64 0) := (Box4.new w (.int .i64 0) (.string ⟨#[]⟩) (.slice none 0 0) (.int .i64 0)).alloc _
  have B1 : Box4 ((w.alloc zNode).alloc (.cells #[.int .i64 8, .string ⟨#[]⟩, .slice none 0 0, .int .i64 0] 53)) (w.heap.size + 1) (.int .i64 8) (.string ⟨#[]⟩) (.slice none 0 0) (.int .i64 0) := by
    have := Box4.new (w.alloc zNode) (.int .i64 8) (.string ⟨#[]⟩) (.slice none 0 0) (.int .i64 0)
    rwa [hsz1] at this
  have hn0 : w.heap.size ≠ C.pb := by omega
  have hn1 : w.heap.size + 1 ≠ C.pb := by omega
  have c0 := rtake_x C b p [40] _ (h.below hA) _ fun w' ho => And.intro (B0.x ho hn0) (B1.x ho hn1)
  obtain ⟨pl, hpl⟩ : ∃ pl, placeT C.ts C.s.size p = pl := ⟨_, rfl⟩
  rw [hpl] at c0
  clear hR hT hne h hx hA B0 B1 hpl hsz1
  simp only [zNode] at c0
  go_enter Tryz.func88, Tryz.ntmps88
  go_wp2_with fail
  refine c0.mono ?_
  clear c0
  rintro e1 w1 ⟨b1, p1, hM1, rfl, hs1, ho1, ⟨⟨x0, x1, x2, x3, xf⟩, X⟩, ⟨y0, y1, y2, y3, yf⟩, Y⟩
  have hT1 : R = Tot (fun q => (rowG C.ts C.s.size ex f [41] q).bind fun l r => .ok (.mk 8 [] l (pl : Int)) r) b1 p1 := by
    rw [HT.out, hM1.bind]
  rw [tot_bind] at hT1
  have HT1 := Lib.hid hT1
  have hsw1 : w.heap.size + 2 ≤ w1.heap.size := by have := ho1.size; simpa using this
  have hS1 := H0.out.node1 (o := 3) (v := .int .i64 pl) hs1 (nb := w.heap.size + 1) (by omega) Y.out
  have hO1 := ((Ow.of_below HA.out).trans ho1).set (k := w.heap.size + 1) (o := 3) (v := .int .i64 pl) (by omega)
  have hX1 := X.out.other (k := w.heap.size + 1) (o := 3) (v := .int .i64 pl) (by omega)
  have hY1 := Y.out.set3 (v := .int .i64 pl)
  have c1 := rrow_x (rlist_any C ex HHX.out f hf [41] b1 p1 _ hS1 (fun e => HNE.out (by rw [hT1, e]; rfl))) _ fun w' ho => And.intro (hX1.x ho hn0) (hY1.x ho hn1)
  have HO1 := Lib.hid hO1
  clear hM1 hT1 hs1 ho1 x0 x1 x2 x3 xf X hS1 hO1 hX1 hY1
  go_wp2_with fail
  refine c1.mono ?_
  clear c1 y0 y1 y2 y3 yf Y
  rintro e2 w2 ⟨b2, p2, l, y, c, hM2, rfl, hk2, hs2, ho2, ⟨⟨x0, x1, x2, x3, xf⟩, X⟩, ⟨y0, y1, y2, y3, yf⟩, Y⟩
  have hsw2 : w.heap.size + 2 ≤ w2.heap.size := by have := ho2.size; simp at this; omega
  have hM : Mt R b2 p2 (.mk 8 [] l (pl : Int)) := by
    rw [HT1.out, hM2.bind]
    exact Mt.ret _ _ _
  have hS2 := H0.out.node1 (o := 2) (v := .slice y l.length c) hs2 (nb := w.heap.size + 1) (by omega) Y.out
  have hX2 := X.out.other (k := w.heap.size + 1) (o := 2) (v := .slice y l.length c) (by omega)
  have HS := Lib.hid (H0.out.node4 (u0 := .int .i64 8) (u1 := .string ⟨#[]⟩) (u2 := .slice y l.length c) (u3 := .int .i64 pl) hS2 (nb := w.heap.size) (Nat.le_refl _) hX2)
  have HO := Lib.hid (((HO1.out.trans ho2).set (k := w.heap.size + 1) (o := 2) (v := .slice y l.length c) (by omega)).set4 (k := w.heap.size) (v0 := .int .i64 8) (v1 := .string ⟨#[]⟩) (v2 := .slice y l.length c) (v3 := .int .i64 pl) (Nat.le_refl _))
  have HK : Hid (NdRow _ (fun j => w.heap.size ≤ j) l y) := Lib.hid ((((hk2.set (k := w.heap.size + 1) (o := 2) (v := .slice y l.length c) (fun j hj => by simp at hj; omega)).set4 (k := w.heap.size) (v0 := .int .i64 8) (v1 := .string ⟨#[]⟩) (v2 := .slice y l.length c) (v3 := .int .i64 pl) (fun j hj => by simp at hj; omega)).wide (ok' := fun j => w.heap.size ≤ j) (fun j hj _ => by simp at hj; omega)))
  have HM := Lib.hid hM
  clear hM hM2 hk2 hs2 ho2 hS2 hX2 X Y
  go_wp2_with fail
  exact ret_node rfl rfl rfl (by simp [go_sem, x0]) (by simp [go_sem, x1]) (by simp [go_sem, x2]) (by simp [go_sem, x3]) ⟨b2, p2, 8, [], l, pl, y, c, HM.out, rfl, HK.out, HS.out, HO.out⟩
end Go.Proofs.YtpbkeamjdolpgaaGreatDoor
