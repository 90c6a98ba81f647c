/- The walks of the reference's expression: signs, calls. The walks of the reference's parameters, statements, body. The walks of the reference's statement: a name is set, modules, functions. -/
import Derived.Test.YtpbkeamjdolpgaaGreatDoorC01
namespace Go.Proofs.YtpbkeamjdolpgaaGreatDoor
open Go.RowKit Go.Lib Go.Shelf Go.Sort

section
variable (ok : Nat → Prop) (w0 : World) (n : List UInt8) (kids : List Nd) (p : Int) (hw : wtL kids + n.length < 2 ^ 40) (hG : Gl w0) (h : ∀ x ∈ kids, OneQ 154 [] ok exR w0 x ∧ OneQ 157 [] ok argR w0 x)
set_option maxHeartbeats 4000000 in
set_option maxRecDepth 100000 in
include hw h in
theorem rex12a1 (hl : kids.length = 1) (HN : n = [45]) (hbt : exsR kids = true) : OneQ 154 [] ok exR w0 (.mk 12 n kids p) := by
  intro v w1 hb hv
  obtain ⟨y, c, rfl, hrow⟩ := hv
  have hlen := len_wtL kids
  have hE : exR (.mk 12 n kids p) = ((decide (n = [45]) || decide (n = [33])) && exsR kids) := by
    rw [exR_eq, if_neg (by decide), if_neg (by decide), if_neg (by decide), if_pos rfl, if_pos hl]
  obtain ⟨R, hR⟩ : ∃ R, exR (.mk 12 n kids p) = R := ⟨_, rfl⟩
  rw [hR] at hE ⊢
  have HR := Lib.hid hE
  show Calls _ _ _ _ (Yes _ w1)
  simp only [List.append_toArray, List.cons_append, List.nil_append]
  have hA : Below w1.heap.size w1 (w1.alloc (ndO 12 n y kids.length c p)) := (Below.refl _ _).alloc (Nat.le_refl _) _
  have B0 := Lib.hid (NdBox.new w1 12 n y kids.length c p)
  have HA := Lib.hid hA
  have C1 : Hid (∀ W, Below (w1.alloc (ndO 12 n y kids.length c p)).heap.size (w1.alloc (ndO 12 n y kids.length c p)) W → Calls Tryz.prog 193 #[.slice y kids.length c] W (Yes (exsR kids) W)) := fun W hW =>
    rall_any ok kids kids.length rfl (by omega) y c W ((hrow.below hA).below hW) (fun x hx => (((h x hx).1.below hb).below hA).below hW)

  obtain ⟨m, hm⟩ : ∃ m, kids.length = m := ⟨_, rfl⟩
  try rw [hm] at hlen
  rw [hm] at hl
  try rw [hm] at HR
  try rw [hm] at hE
  rw [hm] at B0 HA C1 ⊢
  have HM : Hid (m < 2 ^ 40) := by
    show m < 2 ^ 40
    omega
  unfold ndO at B0 HA C1 
  obtain ⟨B, hB⟩ : ∃ B, exsR kids = B := ⟨_, rfl⟩
  rw [hB] at C1 HR
  obtain rfl : B = true := hB.symm.trans hbt
  clear hbt
  subst HN
  have Q : ((m : Int) == 1) = true := by simp; omega
  have HR2 : Hid (R = true) := by
    show R = true
    rw [HR.out]
    simp
  clear hrow hb hA hw hE hm hlen hR hB h HR hl
  go_enter Tryz.func154, Tryz.ntmps154
  go_wp2_with fail
  generalize w1.alloc (.cells #[.int .i64 12, .string ⟨#[45]⟩, .slice y m c, .int .i64 p] 53) = wA at *

  refine (C1.out _ (Below.refl _ _)).mono ?_
  rintro e w2 ⟨rfl, hb2⟩
  obtain ⟨x0, x1, x2, x3⟩ := B0.out.below hb2
  have HB2 := Lib.hid hb2
  clear C1 hb2
  go_wp2_with fail
  go_ret
  exact ⟨by rw [HR2.out]; rfl, tr HA.out HB2.out⟩

set_option maxHeartbeats 4000000 in
set_option maxRecDepth 100000 in
include hw h in
theorem rex12a2 (hl : kids.length = 1) (HN : n = [33]) (hbt : exsR kids = true) : OneQ 154 [] ok exR w0 (.mk 12 n kids p) := by
  intro v w1 hb hv
  obtain ⟨y, c, rfl, hrow⟩ := hv
  have hlen := len_wtL kids
  have hE : exR (.mk 12 n kids p) = ((decide (n = [45]) || decide (n = [33])) && exsR kids) := by
    rw [exR_eq, if_neg (by decide), if_neg (by decide), if_neg (by decide), if_pos rfl, if_pos hl]
  obtain ⟨R, hR⟩ : ∃ R, exR (.mk 12 n kids p) = R := ⟨_, rfl⟩
  rw [hR] at hE ⊢
  have HR := Lib.hid hE
  show Calls _ _ _ _ (Yes _ w1)
  simp only [List.append_toArray, List.cons_append, List.nil_append]
  have hA : Below w1.heap.size w1 (w1.alloc (ndO 12 n y kids.length c p)) := (Below.refl _ _).alloc (Nat.le_refl _) _
  have B0 := Lib.hid (NdBox.new w1 12 n y kids.length c p)
  have HA := Lib.hid hA
  have C1 : Hid (∀ W, Below (w1.alloc (ndO 12 n y kids.length c p)).heap.size (w1.alloc (ndO 12 n y kids.length c p)) W → Calls Tryz.prog 193 #[.slice y kids.length c] W (Yes (exsR kids) W)) := fun W hW =>
    rall_any ok kids kids.length rfl (by omega) y c W ((hrow.below hA).below hW) (fun x hx => (((h x hx).1.below hb).below hA).below hW)

  obtain ⟨m, hm⟩ : ∃ m, kids.length = m := ⟨_, rfl⟩
  try rw [hm] at hlen
  rw [hm] at hl
  try rw [hm] at HR
  try rw [hm] at hE
  rw [hm] at B0 HA C1 ⊢
  have HM : Hid (m < 2 ^ 40) := by
    show m < 2 ^ 40
    omega
  unfold ndO at B0 HA C1 
  obtain ⟨B, hB⟩ : ∃ B, exsR kids = B := ⟨_, rfl⟩
  rw [hB] at C1 HR
  obtain rfl : B = true := hB.symm.trans hbt
  clear hbt
  subst HN
  have Q : ((m : Int) == 1) = true := by simp; omega
  have HR2 : Hid (R = true) := by
    show R = true
    rw [HR.out]
    simp
  clear hrow hb hA hw hE hm hlen hR hB h HR hl
  go_enter Tryz.func154, Tryz.ntmps154
  go_wp2_with fail
  generalize w1.alloc (.cells #[.int .i64 12, .string ⟨#[33]⟩, .slice y m c, .int .i64 p] 53) = wA at *

  refine (C1.out _ (Below.refl _ _)).mono ?_
  rintro e w2 ⟨rfl, hb2⟩
  obtain ⟨x0, x1, x2, x3⟩ := B0.out.below hb2
  have HB2 := Lib.hid hb2
  clear C1 hb2
  go_wp2_with fail
  go_ret
  exact ⟨by rw [HR2.out]; rfl, tr HA.out HB2.out⟩

set_option maxHeartbeats 4000000 in
set_option maxRecDepth 100000 in
include h in
theorem rex12a3 (hl : kids.length = 1) (HN : n ≠ [45] ∧ n ≠ [33]) (hbt : exsR kids = true) : OneQ 154 [] ok exR w0 (.mk 12 n kids p) := by
  intro v w1 hb hv
  obtain ⟨y, c, rfl, hrow⟩ := hv
  have hlen := len_wtL kids
  have hE : exR (.mk 12 n kids p) = ((decide (n = [45]) || decide (n = [33])) && exsR kids) := by
    rw [exR_eq, if_neg (by decide), if_neg (by decide), if_neg (by decide), if_pos rfl, if_pos hl]
  obtain ⟨R, hR⟩ : ∃ R, exR (.mk 12 n kids p) = R := ⟨_, rfl⟩
  rw [hR] at hE ⊢
  have HR := Lib.hid hE
  show Calls _ _ _ _ (Yes _ w1)
  simp only [List.append_toArray, List.cons_append, List.nil_append]
  have hA : Below w1.heap.size w1 (w1.alloc (ndO 12 n y kids.length c p)) := (Below.refl _ _).alloc (Nat.le_refl _) _
  have B0 := Lib.hid (NdBox.new w1 12 n y kids.length c p)
  have HA := Lib.hid hA
  have C1 : Hid (∀ W, Below (w1.alloc (ndO 12 n y kids.length c p)).heap.size (w1.alloc (ndO 12 n y kids.length c p)) W → Calls Tryz.prog 193 #[.slice y kids.length c] W (Yes (exsR kids) W)) := fun W hW =>
    rall_any ok kids kids.length rfl (by omega) y c W ((hrow.below hA).below hW) (fun x hx => (((h x hx).1.below hb).below hA).below hW)

  obtain ⟨m, hm⟩ : ∃ m, kids.length = m := ⟨_, rfl⟩
  try rw [hm] at hlen
  rw [hm] at hl
  try rw [hm] at HR
  try rw [hm] at hE
  rw [hm] at B0 HA C1 ⊢
  have HM : Hid (m < 2 ^ 40) := by
    show m < 2 ^ 40
    omega
  unfold ndO at B0 HA C1 
  obtain ⟨B, hB⟩ : ∃ B, exsR kids = B := ⟨_, rfl⟩
  rw [hB] at C1 HR
  obtain rfl : B = true := hB.symm.trans hbt
  have Q1 : (n == [45]) = false := str_ne HN.1
  have Q2 : (n == [33]) = false := str_ne HN.2
  clear hbt
  have Q : ((m : Int) == 1) = true := by simp; omega
  have HR2 : Hid (R = false) := by
    show R = false
    rw [HR.out]
    simp [HN.1, HN.2]
  clear hrow hb hA hE hm hlen hR hB h HR hl HN
  go_enter Tryz.func154, Tryz.ntmps154
  go_wp2_with fail
  generalize w1.alloc (.cells #[.int .i64 12, .string ⟨n.toArray⟩, .slice y m c, .int .i64 p] 53) = wA at *

  refine (C1.out _ (Below.refl _ _)).mono ?_
  rintro e w2 ⟨rfl, hb2⟩
  obtain ⟨x0, x1, x2, x3⟩ := B0.out.below hb2
  have HB2 := Lib.hid hb2
  clear C1 hb2
  go_wp2_with fail
  go_ret
  exact ⟨by rw [HR2.out]; rfl, tr HA.out HB2.out⟩

set_option maxHeartbeats 4000000 in
set_option maxRecDepth 100000 in
include h in
theorem rex12a4 (hl : kids.length = 1) (_HN : True) (hbt : exsR kids = false) : OneQ 154 [] ok exR w0 (.mk 12 n kids p) := by
  intro v w1 hb hv
  obtain ⟨y, c, rfl, hrow⟩ := hv
  have hlen := len_wtL kids
  have hE : exR (.mk 12 n kids p) = ((decide (n = [45]) || decide (n = [33])) && exsR kids) := by
    rw [exR_eq, if_neg (by decide), if_neg (by decide), if_neg (by decide), if_pos rfl, if_pos hl]
  obtain ⟨R, hR⟩ : ∃ R, exR (.mk 12 n kids p) = R := ⟨_, rfl⟩
  rw [hR] at hE ⊢
  have HR := Lib.hid hE
  show Calls _ _ _ _ (Yes _ w1)
  simp only [List.append_toArray, List.cons_append, List.nil_append]
  have hA : Below w1.heap.size w1 (w1.alloc (ndO 12 n y kids.length c p)) := (Below.refl _ _).alloc (Nat.le_refl _) _
  have B0 := Lib.hid (NdBox.new w1 12 n y kids.length c p)
  have HA := Lib.hid hA
  have C1 : Hid (∀ W, Below (w1.alloc (ndO 12 n y kids.length c p)).heap.size (w1.alloc (ndO 12 n y kids.length c p)) W → Calls Tryz.prog 193 #[.slice y kids.length c] W (Yes (exsR kids) W)) := fun W hW =>
    rall_any ok kids kids.length rfl (by omega) y c W ((hrow.below hA).below hW) (fun x hx => (((h x hx).1.below hb).below hA).below hW)

  obtain ⟨m, hm⟩ : ∃ m, kids.length = m := ⟨_, rfl⟩
  try rw [hm] at hlen
  rw [hm] at hl
  try rw [hm] at HR
  try rw [hm] at hE
  rw [hm] at B0 HA C1 ⊢
  have HM : Hid (m < 2 ^ 40) := by
    show m < 2 ^ 40
    omega
  unfold ndO at B0 HA C1 
  obtain ⟨B, hB⟩ : ∃ B, exsR kids = B := ⟨_, rfl⟩
  rw [hB] at C1 HR
  obtain rfl : B = false := hB.symm.trans hbt
  clear hbt
  have Q : ((m : Int) == 1) = true := by simp; omega
  have HR2 : Hid (R = false) := by
    show R = false
    rw [HR.out]
    simp
  clear hrow hb hA hE hm hlen hR hB h HR hl _HN
  go_enter Tryz.func154, Tryz.ntmps154
  go_wp2_with fail
  generalize w1.alloc (.cells #[.int .i64 12, .string ⟨n.toArray⟩, .slice y m c, .int .i64 p] 53) = wA at *

  refine (C1.out _ (Below.refl _ _)).mono ?_
  rintro e w2 ⟨rfl, hb2⟩
  obtain ⟨x0, x1, x2, x3⟩ := B0.out.below hb2
  have HB2 := Lib.hid hb2
  clear C1 hb2
  go_wp2_with fail
  go_ret
  exact ⟨by rw [HR2.out]; rfl, tr HA.out HB2.out⟩

set_option maxHeartbeats 4000000 in
set_option maxRecDepth 100000 in
include hw h in
theorem rex12b (hl : kids.length ≠ 1) : OneQ 154 [] ok exR w0 (.mk 12 n kids p) := by
  intro v w1 hb hv
  obtain ⟨y, c, rfl, hrow⟩ := hv
  have hlen := len_wtL kids
  have hE : exR (.mk 12 n kids p) = (decide (0 < levelS n) && decide (kids.length = 2) && exsR kids) := by
    rw [exR_eq, if_neg (by decide), if_neg (by decide), if_neg (by decide), if_pos rfl, if_neg hl]
  obtain ⟨R, hR⟩ : ∃ R, exR (.mk 12 n kids p) = R := ⟨_, rfl⟩
  rw [hR] at hE ⊢
  have HR := Lib.hid hE
  show Calls _ _ _ _ (Yes _ w1)
  simp only [List.append_toArray, List.cons_append, List.nil_append]
  have hA : Below w1.heap.size w1 (w1.alloc (ndO 12 n y kids.length c p)) := (Below.refl _ _).alloc (Nat.le_refl _) _
  have B0 := Lib.hid (NdBox.new w1 12 n y kids.length c p)
  have HA := Lib.hid hA
  have C1 : Hid (∀ W, Below (w1.alloc (ndO 12 n y kids.length c p)).heap.size (w1.alloc (ndO 12 n y kids.length c p)) W → Calls Tryz.prog 193 #[.slice y kids.length c] W (Yes (exsR kids) W)) := fun W hW =>
    rall_any ok kids kids.length rfl (by omega) y c W ((hrow.below hA).below hW) (fun x hx => (((h x hx).1.below hb).below hA).below hW)
  have C2 : Hid (∀ W, Calls Tryz.prog 190 #[.string ⟨n.toArray⟩] W fun e w' => e = .returned (.int .i64 ((levelS n : Int) - 1)) ∧ Below W.heap.size W w') := fun W => rlevel_any27 n W

  obtain ⟨m, hm⟩ : ∃ m, kids.length = m := ⟨_, rfl⟩
  try rw [hm] at hlen
  rw [hm] at hl
  try rw [hm] at HR
  try rw [hm] at hE
  rw [hm] at B0 HA C1 ⊢
  have HM : Hid (m < 2 ^ 40) := by
    show m < 2 ^ 40
    omega
  unfold ndO at B0 HA C1 
  obtain ⟨B, hB⟩ : ∃ B, exsR kids = B := ⟨_, rfl⟩
  rw [hB] at C1 HR
  clear hrow hb hA hw hE hm hlen hR hB h
  go_enter Tryz.func154, Tryz.ntmps154
  go_wp2_with fail
  generalize w1.alloc (.cells #[.int .i64 12, .string ⟨n.toArray⟩, .slice y m c, .int .i64 p] 53) = wA at *

  refine (C1.out _ (Below.refl _ _)).mono ?_
  rintro e w2 ⟨rfl, hb2⟩
  obtain ⟨x0, x1, x2, x3⟩ := B0.out.below hb2
  have HB2 := Lib.hid hb2
  clear C1 hb2
  have Q : ((m : Int) == 1) = false := beq_eq_false_iff_ne.2 (by omega)
  cases B
  · have HR2 : Hid (R = false) := by
      show R = false
      rw [HR.out]
      simp
    clear HR hl
    go_wp2_with fail
    go_ret
    exact ⟨by rw [HR2.out]; rfl, tr HA.out HB2.out⟩
  · by_cases h1 : m = 2
    · have Q1 : ((m : Int) == 2) = true := by simp; omega
      have HR3 : Hid (R = decide (0 < levelS n)) := by
        show R = _
        rw [HR.out]
        simp [h1]
      obtain ⟨L, hL⟩ : ∃ L, levelS n = L := ⟨_, rfl⟩
      rw [hL] at C2 HR3
      clear HR hl h1 hL
      go_wp2_with fail
      refine (C2.out _).mono ?_
      rintro e w3 ⟨rfl, hb3⟩
      have HB3 := Lib.hid (tr HB2.out hb3)
      clear hb3 C2
      by_cases h2 : 0 < L
      · have HR2 : Hid (R = true) := by
          show R = true
          rw [HR3.out]
          simpa using h2
        have Q2 : (1 : Int) ≤ (L : Int) := by omega
        clear HR3 h2
        go_wp2_with fail
        go_ret
        exact ⟨by rw [HR2.out]; simp, tr HA.out HB3.out⟩
      · have HR2 : Hid (R = false) := by
          show R = false
          rw [HR3.out]
          simpa using h2
        have Q2 : ¬ (1 : Int) ≤ (L : Int) := by omega
        clear HR3 h2
        go_wp2_with fail
        go_ret
        exact ⟨by rw [HR2.out]; simp [Q2], tr HA.out HB3.out⟩
    · have Q1 : ((m : Int) == 2) = false := beq_eq_false_iff_ne.2 (by omega)
      have HR2 : Hid (R = false) := by
        show R = false
        rw [HR.out]
        simp [h1]
      clear HR hl h1
      go_wp2_with fail
      go_ret
      exact ⟨by rw [HR2.out]; rfl, tr HA.out HB2.out⟩

set_option maxHeartbeats 4000000 in
set_option maxRecDepth 100000 in
include hw in
theorem rex13a (hl : kids.length ≠ 1) : OneQ 154 [] ok exR w0 (.mk 13 n kids p) := by
  intro v w1 hb hv
  obtain ⟨y, c, rfl, hrow⟩ := hv
  have hlen := len_wtL kids
  have hE : exR (.mk 13 n kids p) = (false) := by
    rw [exR_eq, if_neg (by decide), if_neg (by decide), if_neg (by decide), if_neg (by decide), if_pos rfl]
    have : shR [8] kids = false := by
      cases hs : shR [8] kids
      · rfl
      · have := shR_len _ _ hs
        simp at this
        omega
    rw [this, Bool.and_false]
  obtain ⟨R, hR⟩ : ∃ R, exR (.mk 13 n kids p) = R := ⟨_, rfl⟩
  rw [hR] at hE ⊢
  have HR := Lib.hid hE
  show Calls _ _ _ _ (Yes _ w1)
  simp only [List.append_toArray, List.cons_append, List.nil_append]
  have hA : Below w1.heap.size w1 (w1.alloc (ndO 13 n y kids.length c p)) := (Below.refl _ _).alloc (Nat.le_refl _) _
  have HA := Lib.hid hA

  obtain ⟨m, hm⟩ : ∃ m, kids.length = m := ⟨_, rfl⟩
  try rw [hm] at hlen
  rw [hm] at hl
  rw [hm] at HA ⊢
  have HM : Hid (m < 2 ^ 40) := by
    show m < 2 ^ 40
    omega
  unfold ndO at HA  
  clear hrow hb hA hw hE hm hlen hR
  have Q : ((m : Int) != 1) = true := by simp; omega
  go_enter Tryz.func154, Tryz.ntmps154
  go_wp2_with fail
  go_ret
  exact ⟨by rw [HR.out]; rfl, HA.out⟩

set_option maxHeartbeats 4000000 in
set_option maxRecDepth 100000 in
include hw hG h in
theorem rex13b (x : Nd) (hx : kids = [x]) : OneQ 154 [] ok exR w0 (.mk 13 n kids p) := by
  subst hx
  intro v w1 hb hv
  obtain ⟨y, c, rfl, hrow⟩ := hv
  have hE : exR (.mk 13 n [x] p) = (plainR n && argR x) := by
    rw [exR_eq, if_neg (by decide), if_neg (by decide), if_neg (by decide), if_neg (by decide), if_pos rfl]
    have : shR [8] [x] = argR x := by
      show ((if (8 : Int) < 0 then exR x else decide (x.kind = 8) && partR x) && true) = argR x
      rw [if_neg (by decide), Bool.and_true]
      rfl
    rw [this]
  obtain ⟨R, hR⟩ : ∃ R, exR (.mk 13 n [x] p) = R := ⟨_, rfl⟩
  rw [hR] at hE ⊢
  have HR := Lib.hid hE
  show Calls _ _ _ _ (Yes _ w1)
  simp only [List.append_toArray, List.cons_append, List.nil_append]
  have hA : Below w1.heap.size w1 (w1.alloc (ndO 13 n y [x].length c p)) := (Below.refl _ _).alloc (Nat.le_refl _) _
  have B0 := Lib.hid (NdBox.new w1 13 n y [x].length c p)
  have HA := Lib.hid hA
  have hr2 := hrow.below hA
  obtain ⟨B, o, rfl, hat, _⟩ := hr2
  have HAT := Lib.hid hat
  have C1 : Hid (∀ W, Below (w1.alloc (ndO 13 n (some ⟨B, o, none⟩) [x].length c p)).heap.size (w1.alloc (ndO 13 n (some ⟨B, o, none⟩) [x].length c p)) W → Calls Tryz.prog 153 #[.string ⟨n.toArray⟩] W (Yes (plainR n) W)) := fun W hW =>
    rplain_any n W (by omega) (((hG.below hb).below hA).below hW)
  have C2 : Hid (∀ W v, Below (w1.alloc (ndO 13 n (some ⟨B, o, none⟩) [x].length c p)).heap.size (w1.alloc (ndO 13 n (some ⟨B, o, none⟩) [x].length c p)) W → NdVal W ok x v → Calls Tryz.prog 157 #[v] W (Yes (argR x) W)) := fun W v hW hv => by
    have := (((h x (by simp)).2.below hb).below hA).below hW v W (Below.refl _ _) hv
    simpa using this
  have HAT2 : Hid (∀ W, Below (w1.alloc (ndO 13 n (some ⟨B, o, none⟩) [x].length c p)).heap.size (w1.alloc (ndO 13 n (some ⟨B, o, none⟩) [x].length c p)) W → NdAt W ok x B o) := fun W hW => HAT.out.mono_below hW
  obtain ⟨b1, hb1⟩ : ∃ b, plainR n = b := ⟨_, rfl⟩
  obtain ⟨b2, hb2⟩ : ∃ b, argR x = b := ⟨_, rfl⟩
  rw [hb1] at C1 HR
  rw [hb2] at C2 HR
  simp only [List.length_singleton] at B0 HA C1 C2 HAT2 ⊢
  unfold ndO at B0 HA C1 C2 HAT2
  clear hrow hb hA hw hE hG h hR hb1 hb2 hat HAT
  go_enter Tryz.func154, Tryz.ntmps154
  go_wp2_with fail
  generalize w1.alloc (.cells #[.int .i64 13, .string ⟨n.toArray⟩, .slice (some ⟨B, o, none⟩) 1 c, .int .i64 p] 53) = wA at *

  refine (C1.out _ (Below.refl _ _)).mono ?_
  rintro e w2 ⟨rfl, hb2⟩
  obtain ⟨x0, x1, x2, x3⟩ := B0.out.below hb2
  have HB2 := Lib.hid hb2
  obtain ⟨k', nm, z, kk, cc, p', rfl, y0, y1, y2, y3, hk⟩ := (HAT2.out w2 hb2).val
  have c2 := C2.out w2 (.agg #[.int .i64 k', .string ⟨nm.toArray⟩, .slice z kk.length cc, .int .i64 p']) hb2 ⟨z, cc, rfl, hk⟩
  clear C1 C2 hb2 HAT2 hk
  go_wp2_with fail
  refine c2.mono ?_
  clear c2
  rintro e w3 ⟨rfl, hb3⟩
  have HB3 := Lib.hid (tr HB2.out hb3)
  clear hb3
  cases b1
  all_goals (
    go_wp2_with fail
    go_ret
    exact ⟨by rw [HR.out]; rfl, tr HA.out HB3.out⟩)

set_option maxHeartbeats 4000000 in
set_option maxRecDepth 100000 in
theorem rexno (k : Int) (hk : k < 9 ∨ 15 < k) : OneQ 154 [] ok exR w0 (.mk k n kids p) := by
  intro v w1 hb hv
  obtain ⟨y, c, rfl, hrow⟩ := hv
  have hA : Below w1.heap.size w1 (w1.alloc (ndO k n y kids.length c p)) := (Below.refl _ _).alloc (Nat.le_refl _) _
  have HA := Lib.hid hA
  have hE : exR (.mk k n kids p) = false := by
    rw [exR_eq, if_neg (by omega), if_neg (by omega), if_neg (by omega), if_neg (by omega), if_neg (by omega), if_neg (by omega), if_neg (by omega)]
  rw [hE]
  show Calls _ _ _ _ (Yes _ w1)
  simp only [List.append_toArray, List.cons_append, List.nil_append]
  have Q9 : (k == 9) = false := beq_eq_false_iff_ne.2 (by omega)
  have Q10 : (k == 10) = false := beq_eq_false_iff_ne.2 (by omega)
  have Q11 : (k == 11) = false := beq_eq_false_iff_ne.2 (by omega)
  have Q12 : (k == 12) = false := beq_eq_false_iff_ne.2 (by omega)
  have Q13 : (k == 13) = false := beq_eq_false_iff_ne.2 (by omega)
  have Q14 : (k == 14) = false := beq_eq_false_iff_ne.2 (by omega)
  have Q15 : (k == 15) = false := beq_eq_false_iff_ne.2 (by omega)
  clear hrow hb hA hE hk
  go_enter Tryz.func154, Tryz.ntmps154
  go_wp2_with fail
  go_ret
  exact ⟨rfl, HA.out⟩
end
/-- The reference's expression and arguments. -/
theorem rnode_ck (ok : Nat → Prop) (w0 : World) (hG : Gl w0) : ∀ (N : Nat) (x : Nd), wtN x < N → wtN x < 2 ^ 40 → OneQ 154 [] ok exR w0 x ∧ OneQ 157 [] ok argR w0 x
  | 0, _, h, _ => by omega
  | N + 1, .mk k n kids p, hN, hw => by
    have hK : ∀ x ∈ kids, OneQ 154 [] ok exR w0 x ∧ OneQ 157 [] ok argR w0 x := fun x hx => rnode_ck ok w0 hG N x (by have := kid_wt (k := k) (n := n) (p := p) hx; omega) (by have := kid_wt (k := k) (n := n) (p := p) hx; omega)
    rw [wtN_mk] at hw
    have hw' : wtL kids + n.length < 2 ^ 40 := by omega
    refine ⟨?_, rargs_any27 ok w0 n kids p hw' hK k⟩
    by_cases h9 : k = 9
    · subst h9; exact rex9 ok w0 n kids p hw' hG
    by_cases h10 : k = 10
    · subst h10; exact rex10 ok w0 n kids p hw' hG
    by_cases h11 : k = 11
    · subst h11; exact rex11 ok w0 n kids p hw' hK
    by_cases h12 : k = 12
    · subst h12
      by_cases hl : kids.length = 1
      · cases hbt : exsR kids
        · exact rex12a4 ok w0 n kids p hK hl trivial hbt
        by_cases h45 : n = [45]
        · exact rex12a1 ok w0 n kids p hw' hK hl h45 hbt
        by_cases h33 : n = [33]
        · exact rex12a2 ok w0 n kids p hw' hK hl h33 hbt
        · exact rex12a3 ok w0 n kids p hK hl ⟨h45, h33⟩ hbt
      · exact rex12b ok w0 n kids p hw' hK hl
    by_cases h13 : k = 13
    · subst h13
      by_cases hl : kids.length = 1
      · obtain ⟨x, hx⟩ := List.length_eq_one_iff.1 hl
        exact rex13b ok w0 n kids p hw' hG hK x hx
      · exact rex13a ok w0 n kids p hw' hl
    by_cases h14 : k = 14
    · subst h14; exact rex14 ok w0 n kids p hw' hK
    by_cases h15 : k = 15
    · subst h15; exact rex15 ok w0 n kids p hw' hK
    exact rexno ok w0 n kids p k (by omega)
end Go.Proofs.YtpbkeamjdolpgaaGreatDoor
namespace Go.Proofs.YtpbkeamjdolpgaaGreatDoor
open Go.RowKit Go.Lib Go.Shelf Go.Sort

/-- What is known of a node: what the reference's four tests tell of it. -/
def KnR (ok : Nat → Prop) (w : World) (x : Nd) : Prop :=
  OneQ 154 [] ok (tstR (-1)) w x ∧ OneQ 157 [] ok (tstR 8) w x ∧ OneQ 155 [] ok (tstR 4) w x ∧ OneQ 156 [] ok (tstR 0) w x
theorem KnR.below {ok : Nat → Prop} {w w1 : World} {x : Nd} (h : KnR ok w x) (hb : Below w.heap.size w w1) : KnR ok w1 x := ⟨h.1.below hb, h.2.1.below hb, h.2.2.1.below hb, h.2.2.2.below hb⟩
theorem tst_ex : tstR (-1) = exR := funext fun x => by unfold tstR; rw [if_pos (by decide)]
theorem tst_arg : tstR 8 = argR := funext fun x => by unfold tstR argR; rw [if_neg (by decide)]
/-- A parameter. -/
def parQ (x : Nd) : Bool := decide (x.kind = 10) && exR x
theorem parQ_mk (k : Int) (n : List UInt8) (l : List Nd) (p : Int) : parQ (.mk k n l p) = (plainR n && decide (k = 10) && decide (l.length = 0)) := by
  show (decide (k = 10) && exR (.mk k n l p)) = _
  by_cases h : k = 10
  · subst h
    rw [exR_eq, if_neg (by decide), if_pos rfl]
    cases l <;> simp
  · simp [h]
theorem tst4_mk (k : Int) (n : List UInt8) (l : List Nd) (p : Int) : tstR 4 (.mk k n l p) = (decide (k = 4) && n.isEmpty && l.all parQ) := by
  unfold tstR
  rw [if_neg (by decide)]
  show (decide (k = 4) && partR (.mk k n l p)) = _
  rw [partR]
  by_cases h : k = 4
  · subst h
    rw [if_neg (by decide), if_pos rfl, parsR_all]
    simp only [decide_true, Bool.true_and]
    rfl
  · simp [h]
theorem tst0_mk (k : Int) (n : List UInt8) (l : List Nd) (p : Int) : tstR 0 (.mk k n l p) = (decide (k = 0) && n.isEmpty && stsR l) := by
  unfold tstR
  rw [if_neg (by decide)]
  show (decide (k = 0) && partR (.mk k n l p)) = _
  rw [partR]
  by_cases h : k = 0
  · subst h
    rw [if_pos rfl]
    simp
  · simp [h]
section
variable (ok : Nat → Prop) (w0 : World) (n : List UInt8) (kids : List Nd) (p : Int) (hw : wtL kids + n.length < 2 ^ 40) (hG : Gl w0)
set_option maxHeartbeats 4000000 in
set_option maxRecDepth 100000 in
include hw hG in
theorem rpars_any27 (k : Int) : OneQ 155 [] ok (tstR 4) w0 (.mk k n kids p) := by
  intro v w1 hb hv
  obtain ⟨y, c, rfl, hrow⟩ := hv
  have hlen := len_wtL kids
  have hE := tst4_mk k n kids p
  obtain ⟨R, hR⟩ : ∃ R, tstR 4 (.mk k n kids p) = R := ⟨_, rfl⟩
  rw [hR] at hE ⊢
  have HR := Lib.hid hE
  show Calls _ _ _ _ (Yes _ w1)
  simp only [List.append_toArray, List.cons_append, List.nil_append]
  have hA : Below w1.heap.size w1 (w1.alloc (ndO k n y kids.length c p)) := (Below.refl _ _).alloc (Nat.le_refl _) _
  have B0 := Lib.hid (NdBox.new w1 k n y kids.length c p)
  have HA := Lib.hid hA
  have HROW := Lib.hid (hrow.below hA)
  have C1 : Hid (∀ W, Below (w1.alloc (ndO k n y kids.length c p)).heap.size (w1.alloc (ndO k n y kids.length c p)) W → ∀ s : List UInt8, s.length < 2 ^ 40 → Calls Tryz.prog 153 #[.string ⟨s.toArray⟩] W (Yes (plainR s) W)) := fun W hW s hs =>
    rplain_any s W (by omega) (((hG.below hb).below hA).below hW)
  have HK : Hid (∀ (k : Int) (s : List UInt8) (l : List Nd) (q : Int), .mk k s l q ∈ kids → s.length < 2 ^ 40 ∧ l.length < 2 ^ 40) := fun k s l q hm => by
    have h1 := wtL_mem hm
    rw [wtN_mk] at h1
    have h2 := len_wtL l
    omega
  obtain ⟨m, hm⟩ : ∃ m, kids.length = m := ⟨_, rfl⟩
  rw [hm] at hlen
  rw [hm] at B0 HA C1 HROW ⊢
  have HL := Lib.hid hm
  have hm62 : m < 2 ^ 62 := by omega
  unfold ndO at B0 HA C1 HROW
  clear hrow hb hA hw hE hG hm hlen hR
  by_cases h4 : k = 4
  · subst h4
    by_cases hq : n = []
    · subst hq
      have HR2 : Hid (R = kids.all parQ) := by
        show R = _
        rw [HR.out]
        rfl
      clear HR
      go_enter Tryz.func155, Tryz.ntmps155
      go_wp2_with fail
      generalize w1.alloc (.cells #[.int .i64 4, .string ⟨#[]⟩, .slice y m c, .int .i64 p] 53) = wA at *

      go_loopw [3] (fun v wx => ∃ i : Nat, v = .int .i64 i ∧ i ≤ m ∧ Below wA.heap.size wA wx ∧ Hid ((kids.take i).all parQ = true)) (fun v _ => m - (RowKit.intOf v).toNat)
      case atStart => exact ⟨0, rfl, Nat.zero_le _, Below.refl _ _, by simp [Hid]⟩
      case round =>
        obtain ⟨i, rfl, hi, hb, hf⟩ := hrel
        obtain ⟨b0, b1, b2, b3⟩ := B0.out.below hb
        by_cases hlt : i < m
        · obtain ⟨u, hu⟩ : ∃ u, kids[i]? = some u := ⟨kids[i]'(by have := HL.out; omega), List.getElem?_eq_getElem _⟩
          obtain ⟨B, o, rfl, hat⟩ := (HROW.out.below hb).at_ hu
          obtain ⟨k', nm, z, kk, cc, p', rfl, x0, x1, x2, x3, hk⟩ := hat.val
          obtain ⟨hs1, hs2⟩ := HK.out k' nm kk p' (List.mem_of_getElem? hu)
          have c1 := C1.out wr hb nm hs1
          have hmk := parQ_mk k' nm kk p'
          have HN : Hid (parQ (.mk k' nm kk p') = true → (kids.take (i + 1)).all parQ = true) := fun ht => by
            rw [List.take_add_one, hu, List.all_append, hf.out]
            simp [ht]
          have HX : Hid (parQ (.mk k' nm kk p') = false → R = false) := fun ht => by
            rw [HR2.out]
            exact List.all_eq_false.2 ⟨_, List.mem_of_getElem? hu, by simpa using ht⟩
          have HX2 : Hid (∀ wx, Below wr.heap.size wr wx → wx.cell? ⟨B, o + i * 4, none⟩ = some (.int .i64 k') ∧ wx.cell? ⟨B, o + i * 4 + 2, none⟩ = some (.slice z kk.length cc)) := fun wx h =>
            ⟨(h.cell (p := ⟨B, o + i * 4, none⟩) (World.block_lt_of_cell? wr _ x0)).trans x0, (h.cell (p := ⟨B, o + i * 4 + 2, none⟩) (World.block_lt_of_cell? wr _ x2)).trans x2⟩
          have hlt' : (i : Int) < (m : Int) := by omega
          have Qi : IntKind.i64.wrap ((i : Int) + 1) = (i : Int) + 1 := IntWalk.i64_in _ (by omega)
          obtain ⟨b, hB⟩ : ∃ b, plainR nm = b := ⟨_, rfl⟩
          rw [hB] at c1 hmk
          have HMK := Lib.hid hmk
          obtain ⟨ml, hml⟩ : ∃ ml, kk.length = ml := ⟨_, rfl⟩
          rw [hml] at HMK HX2 x2 hs2
          clear hu hf hk hat hB hs1 hmk hml
          go_wp2_with fail
          refine c1.mono ?_
          clear c1
          rintro e w3 ⟨rfl, hb3⟩
          obtain ⟨y0, y2⟩ := HX2.out w3 hb3
          have HB3 := Lib.hid (hb.trans (hb3.mono hb.size))
          obtain ⟨d0, d1, d2, d3⟩ := B0.out.below HB3.out
          clear x0 x1 x2 x3 b0 b1 b2 b3 hb3 HX2
          cases b
          · have HR3 : Hid (R = false) := HX.out (by rw [HMK.out]; simp)
            clear HMK HN HX
            go_wp2_with fail
            go_ret
            exact ⟨by rw [HR3.out]; rfl, tr HA.out HB3.out⟩
          · by_cases h10 : k' = 10
            · have Q10 : (k' != 10) = false := by rw [bne_eq_false_iff_eq]; exact h10
              by_cases h0 : ml = 0
              · have Q0 : ((ml : Int) != 0) = false := by rw [bne_eq_false_iff_eq]; omega
                have HN2 := Lib.hid (HN.out (by rw [HMK.out]; simp [h10, h0]))
                clear HMK HN HX h10 h0
                go_wp2_with fail
                go_roundw
                case rel => exact ⟨i + 1, by go_num, by omega, HB3.out, HN2⟩
                case measure => simp [RowKit.intOf]; omega
              · have Q0 : ((ml : Int) != 0) = true := by simp; omega
                have HR3 : Hid (R = false) := HX.out (by rw [HMK.out]; simp [h0])
                clear HMK HN HX h10 h0
                go_wp2_with fail
                go_ret
                exact ⟨by rw [HR3.out]; rfl, tr HA.out HB3.out⟩
            · have Q10 : (k' != 10) = true := by simpa using h10
              have HR3 : Hid (R = false) := HX.out (by rw [HMK.out]; simp [h10])
              clear HMK HN HX h10
              go_wp2_with fail
              go_ret
              exact ⟨by rw [HR3.out]; rfl, tr HA.out HB3.out⟩
        · have HM : Hid (R = true) := by
            show R = true
            rw [HR2.out]
            have := hf.out
            rwa [List.take_of_length_le (by have := HL.out; omega)] at this
          have hlt' : ¬ (i : Int) < (m : Int) := by omega
          clear hf
          go_wp2_with fail
          go_ret
          exact ⟨by rw [HM.out]; rfl, tr HA.out hb⟩
    · have Q : (n != []) = true := by simpa using hq
      have Qb : (n == []) = false := str_ne hq
      have HR2 : Hid (R = false) := by
        show R = false
        rw [HR.out]
        simp [hq]
      clear HR hq
      go_enter Tryz.func155, Tryz.ntmps155
      go_wp2_with fail
      go_ret
      exact ⟨by rw [HR2.out]; rfl, HA.out⟩
  · have Q : (k != 4) = true := by simpa using h4
    have HR2 : Hid (R = false) := by
      show R = false
      rw [HR.out]
      simp [h4]
    clear HR h4
    go_enter Tryz.func155, Tryz.ntmps155
    go_wp2_with fail
    go_ret
    exact ⟨by rw [HR2.out]; rfl, HA.out⟩
end
set_option maxHeartbeats 4000000 in
set_option maxRecDepth 100000 in
theorem rsts_any27 (ok : Nat → Prop) (l : List Nd) (n : Nat) (hl : l.length = n) (hn : n < 2 ^ 62) (y : Option Addr) (c : Nat) (w : World) (hrow : NdRow w ok l y) (h : ∀ x ∈ l, OneQ 101 [] ok stR w x) :
    Calls Tryz.prog 56 #[.slice y n c] w (Yes (stsR l) w) := by
  have HROW := Lib.hid hrow
  have HL := Lib.hid hl
  have HH := Lib.hid h
  obtain ⟨R, hR⟩ : ∃ R, stsR l = R := ⟨_, rfl⟩
  have HR : Hid (R = l.all stR) := by
    show R = _
    rw [← hR, stsR_all]
  rw [hR]
  clear h hl hrow hR
  go_enter Tryz.func56, Tryz.ntmps56
  go_wp2_with fail
  go_loopw [3] (fun v wx => ∃ i : Nat, v = .int .i64 i ∧ i ≤ n ∧ Below w.heap.size w wx ∧ Hid ((l.take i).all stR = true)) (fun v _ => n - (RowKit.intOf v).toNat)
  case atStart => exact ⟨0, rfl, Nat.zero_le _, Below.refl _ _, by simp [Hid]⟩
  case round =>
    obtain ⟨i, rfl, hi, hb, hf⟩ := hrel
    by_cases hlt : i < n
    · obtain ⟨u, hu⟩ : ∃ u, l[i]? = some u := ⟨l[i]'(by have := HL.out; omega), List.getElem?_eq_getElem _⟩
      obtain ⟨B, o, rfl, hat⟩ := (HROW.out.below hb).at_ hu
      obtain ⟨k, nm, z, kids, cc, p, rfl, x0, x1, x2, x3, hk⟩ := hat.val
      have c1 := HH.out _ (List.mem_of_getElem? hu) (.agg #[.int .i64 k, .string ⟨nm.toArray⟩, .slice z kids.length cc, .int .i64 p]) wr hb ⟨z, cc, rfl, hk⟩
      have HN : Hid ((l.take (i + 1)).all stR = stR (.mk k nm kids p)) := by
        show _ = _
        rw [List.take_add_one, hu, List.all_append, hf.out]
        simp
      have HA : Hid (stR (.mk k nm kids p) = false → R = false) := fun ht => by
        rw [HR.out]
        exact List.all_eq_false.2 ⟨_, List.mem_of_getElem? hu, by simpa using ht⟩
      have hlt' : (i : Int) < (n : Int) := by omega
      have Qi : IntKind.i64.wrap ((i : Int) + 1) = (i : Int) + 1 := IntWalk.i64_in _ (by omega)
      simp only [List.append_toArray, List.cons_append, List.nil_append] at c1
      cases hB : stR (.mk k nm kids p)
      · rw [hB] at c1
        have HB := Lib.hid hB
        clear hu hf hB hk hat HN
        go_wp2_with fail
        refine c1.mono ?_
        clear c1
        rintro e w1 ⟨rfl, hb1⟩
        go_wp2_with fail
        go_ret
        exact ⟨by rw [HA.out HB.out]; rfl, tr hb hb1⟩
      · rw [hB] at c1
        have HB := Lib.hid hB
        clear hu hf hB hk hat HA
        go_wp2_with fail
        refine c1.mono ?_
        clear c1
        rintro e w1 ⟨rfl, hb1⟩
        go_wp2_with fail
        go_roundw
        case rel => exact ⟨i + 1, by go_num, by omega, tr hb hb1, by rw [HN.out, HB.out]; rfl⟩
        case measure => simp [RowKit.intOf]; omega
    · have HM : Hid (R = true) := by
        show R = true
        rw [HR.out]
        have := hf.out
        rwa [List.take_of_length_le (by have := HL.out; omega)] at this
      have hlt' : ¬ (i : Int) < (n : Int) := by omega
      clear hf
      go_wp2_with fail
      go_ret
      exact ⟨by rw [HM.out]; rfl, hb⟩
set_option maxHeartbeats 4000000 in
set_option maxRecDepth 100000 in
theorem rbody_any27 (ok : Nat → Prop) (w0 : World) (k : Int) (n : List UInt8) (kids : List Nd) (p : Int) (hw : wtL kids + n.length < 2 ^ 40) (h : ∀ x ∈ kids, OneQ 101 [] ok stR w0 x) : OneQ 156 [] ok (tstR 0) w0 (.mk k n kids p) := by
  intro v w1 hb hv
  obtain ⟨y, c, rfl, hrow⟩ := hv
  have hlen := len_wtL kids
  have hE := tst0_mk k n kids p
  obtain ⟨R, hR⟩ : ∃ R, tstR 0 (.mk k n kids p) = R := ⟨_, rfl⟩
  rw [hR] at hE ⊢
  have HR := Lib.hid hE
  show Calls _ _ _ _ (Yes _ w1)
  simp only [List.append_toArray, List.cons_append, List.nil_append]
  have hA : Below w1.heap.size w1 (w1.alloc (ndO k n y kids.length c p)) := (Below.refl _ _).alloc (Nat.le_refl _) _
  have B0 := Lib.hid (NdBox.new w1 k n y kids.length c p)
  have HA := Lib.hid hA
  have C1 : Hid (∀ W, Below (w1.alloc (ndO k n y kids.length c p)).heap.size (w1.alloc (ndO k n y kids.length c p)) W → Calls Tryz.prog 56 #[.slice y kids.length c] W (Yes (stsR kids) W)) := fun W hW =>
    rsts_any27 ok kids kids.length rfl (by omega) y c W ((hrow.below hA).below hW) (fun x hx => (((h x hx).below hb).below hA).below hW)
  obtain ⟨m, hm⟩ : ∃ m, kids.length = m := ⟨_, rfl⟩
  rw [hm] at B0 HA C1 ⊢
  unfold ndO at B0 HA C1
  obtain ⟨B, hB⟩ : ∃ B, stsR kids = B := ⟨_, rfl⟩
  rw [hB] at C1 HR
  clear hrow hb hA hw hE hm hlen hR hB h
  go_enter Tryz.func156, Tryz.ntmps156
  go_wp2_with fail
  generalize w1.alloc (.cells #[.int .i64 k, .string ⟨n.toArray⟩, .slice y m c, .int .i64 p] 53) = wA at *

  refine (C1.out _ (Below.refl _ _)).mono ?_
  rintro e w2 ⟨rfl, hb2⟩
  obtain ⟨x0, x1, x2, x3⟩ := B0.out.below hb2
  have HB2 := Lib.hid hb2
  clear C1 hb2
  by_cases h8 : k = 0
  · subst h8
    by_cases hq : n = []
    · subst hq
      have HR2 : Hid (R = B) := by
        show R = B
        rw [HR.out]
        rfl
      clear HR
      go_wp2_with fail
      go_ret
      exact ⟨by rw [HR2.out]; rfl, tr HA.out HB2.out⟩
    · have Q : (n == []) = false := str_ne hq
      have HR2 : Hid (R = false) := by
        show R = false
        rw [HR.out]
        simp [hq]
      clear hq HR
      go_wp2_with fail
      go_ret
      exact ⟨by rw [HR2.out]; rfl, tr HA.out HB2.out⟩
  · have Q : (k == 0) = false := beq_eq_false_iff_ne.2 h8
    have HR2 : Hid (R = false) := by
      show R = false
      rw [HR.out]
      simp [h8]
    clear h8 HR
    go_wp2_with fail
    go_ret
    exact ⟨by rw [HR2.out]; rfl, tr HA.out HB2.out⟩
end Go.Proofs.YtpbkeamjdolpgaaGreatDoor
namespace Go.Proofs.YtpbkeamjdolpgaaGreatDoor
open Go.RowKit Go.Lib Go.Shelf Go.Sort

section
variable (ok : Nat → Prop) (w0 : World) (n : List UInt8) (kids : List Nd) (p : Int) (hw : wtL kids + n.length < 2 ^ 40) (hG : Gl w0) (h : ∀ x ∈ kids, KnR ok w0 x)
set_option maxHeartbeats 4000000 in
set_option maxRecDepth 100000 in
include hw hG h in
theorem rst1_any : OneQ 101 [] ok stR w0 (.mk 1 n kids p) := by
  intro v w1 hb hv
  obtain ⟨y, c, rfl, hrow⟩ := hv
  have hlen := len_wtL kids
  have hE : stR (.mk 1 n kids p) = (plainR n && shR [-1] kids) := by
    rw [stR_eq, if_neg (by decide), if_pos rfl]
  obtain ⟨R, hR⟩ : ∃ R, stR (.mk 1 n kids p) = R := ⟨_, rfl⟩
  rw [hR] at hE ⊢
  have HR := Lib.hid hE
  show Calls _ _ _ _ (Yes _ w1)
  simp only [List.append_toArray, List.cons_append, List.nil_append]
  have hA : Below w1.heap.size w1 (w1.alloc (ndO 1 n y kids.length c p)) := (Below.refl _ _).alloc (Nat.le_refl _) _
  have B0 := Lib.hid (NdBox.new w1 1 n y kids.length c p)
  have HA := Lib.hid hA
  have HROW := Lib.hid (hrow.below hA)
  have HK : Hid (∀ x ∈ kids, KnR ok (w1.alloc (ndO 1 n y kids.length c p)) x) := fun x hx => ((h x hx).below hb).below hA
  have C1 : Hid (∀ W, Below (w1.alloc (ndO 1 n y kids.length c p)).heap.size (w1.alloc (ndO 1 n y kids.length c p)) W → Calls Tryz.prog 153 #[.string ⟨n.toArray⟩] W (Yes (plainR n) W)) := fun W hW =>
    rplain_any n W (by omega) (((hG.below hb).below hA).below hW)
  obtain ⟨m, hm⟩ : ∃ m, kids.length = m := ⟨_, rfl⟩
  rw [hm] at B0 HA C1 HROW HK ⊢
  have HL := Lib.hid hm
  unfold ndO at B0 HA C1 HROW HK
  obtain ⟨bp, hbp⟩ : ∃ b, plainR n = b := ⟨_, rfl⟩
  rw [hbp] at C1 HR
  clear hrow hb hA hw hE hG hm hlen hR hbp h
  go_enter Tryz.func101, Tryz.ntmps101
  go_wp2_with fail
  generalize w1.alloc (.cells #[.int .i64 1, .string ⟨n.toArray⟩, .slice y m c, .int .i64 p] 53) = wA at *

  refine (C1.out _ (Below.refl _ _)).mono ?_
  rintro e w2 ⟨rfl, hb2⟩
  obtain ⟨b0, b1, b2, b3⟩ := B0.out.below hb2
  have HB2 := Lib.hid hb2
  clear C1 hb2
  cases bp
  · have HR2 : Hid (R = false) := by
      show R = false
      rw [HR.out]
      simp
    clear HR
    go_wp2_with fail
    go_ret
    exact ⟨by rw [HR2.out]; rfl, tr HA.out HB2.out⟩
  · by_cases hl : m = 1
    · subst hl
      obtain ⟨x0, rfl⟩ := List.length_eq_one_iff.1 HL.out
      have HR2 : Hid (R = (tstR (-1) x0)) := by
        show R = _
        rw [HR.out]
        show (true && (tstR (-1) x0 && true)) = _
        simp
      have hrw := HROW.out
      obtain ⟨B, o, rfl, hat0, hrw⟩ := hrw
      have HAT0 : Hid (∀ W, Below wA.heap.size wA W → NdAt W ok x0 B o) := fun W hW => (hat0).mono_below hW
      have HKN0 : Hid (KnR ok wA x0) := HK.out x0 (by simp)
      obtain ⟨t0, ht0⟩ : ∃ t, tstR (-1) x0 = t := ⟨_, rfl⟩
      have HT0 := Lib.hid ht0
      rw [ht0] at HR2
      clear ht0 hat0
      clear hrw HR HROW HK
      obtain ⟨k0, nm0, z0, kk0, cc0, p0, e0, y00, y01, y02, y03, hk0⟩ := ((HAT0.out w2 HB2.out)).val
      have c0 := (HKN0.out).1 (.agg #[.int .i64 k0, .string ⟨nm0.toArray⟩, .slice z0 kk0.length cc0, .int .i64 p0]) w2 HB2.out (by rw [e0]; exact ⟨z0, cc0, rfl, hk0⟩)
      simp only [List.append_toArray, List.cons_append, List.nil_append] at c0
      rw [HT0.out] at c0
      clear hk0 e0
      go_wp2_with fail
      refine c0.mono ?_
      clear c0
      rintro e w3 ⟨rfl, hw3⟩
      have Hw3 := Lib.hid (HB2.out.trans (hw3.mono HB2.out.size))
      obtain ⟨b0, b1, b2, b3⟩ := B0.out.below Hw3.out
      clear hw3 y00 y01 y02 y03
      go_wp2_with fail
      go_ret
      exact ⟨by rw [HR2.out]; rfl, tr HA.out Hw3.out⟩
    · have Q : ((m : Int) == 1) = false := beq_eq_false_iff_ne.2 (by omega)
      have HR2 : Hid (R = false) := by
        show R = false
        rw [HR.out]
        cases hs : shR [-1] kids
        · rfl
        · have h1 := shR_len _ _ hs
          have h2 := HL.out
          simp at h1
          omega
      clear HR hl
      go_wp2_with fail
      go_ret
      exact ⟨by rw [HR2.out]; rfl, tr HA.out HB2.out⟩

set_option maxHeartbeats 4000000 in
set_option maxRecDepth 100000 in
include hw hG h in
theorem rst2_any : OneQ 101 [] ok stR w0 (.mk 2 n kids p) := by
  intro v w1 hb hv
  obtain ⟨y, c, rfl, hrow⟩ := hv
  have hlen := len_wtL kids
  have hE : stR (.mk 2 n kids p) = (plainR n && shR [4, 0] kids) := by
    rw [stR_eq, if_neg (by decide), if_neg (by decide), if_pos rfl]
  obtain ⟨R, hR⟩ : ∃ R, stR (.mk 2 n kids p) = R := ⟨_, rfl⟩
  rw [hR] at hE ⊢
  have HR := Lib.hid hE
  show Calls _ _ _ _ (Yes _ w1)
  simp only [List.append_toArray, List.cons_append, List.nil_append]
  have hA : Below w1.heap.size w1 (w1.alloc (ndO 2 n y kids.length c p)) := (Below.refl _ _).alloc (Nat.le_refl _) _
  have B0 := Lib.hid (NdBox.new w1 2 n y kids.length c p)
  have HA := Lib.hid hA
  have HROW := Lib.hid (hrow.below hA)
  have HK : Hid (∀ x ∈ kids, KnR ok (w1.alloc (ndO 2 n y kids.length c p)) x) := fun x hx => ((h x hx).below hb).below hA
  have C1 : Hid (∀ W, Below (w1.alloc (ndO 2 n y kids.length c p)).heap.size (w1.alloc (ndO 2 n y kids.length c p)) W → Calls Tryz.prog 153 #[.string ⟨n.toArray⟩] W (Yes (plainR n) W)) := fun W hW =>
    rplain_any n W (by omega) (((hG.below hb).below hA).below hW)
  obtain ⟨m, hm⟩ : ∃ m, kids.length = m := ⟨_, rfl⟩
  rw [hm] at B0 HA C1 HROW HK ⊢
  have HL := Lib.hid hm
  unfold ndO at B0 HA C1 HROW HK
  obtain ⟨bp, hbp⟩ : ∃ b, plainR n = b := ⟨_, rfl⟩
  rw [hbp] at C1 HR
  clear hrow hb hA hw hE hG hm hlen hR hbp h
  go_enter Tryz.func101, Tryz.ntmps101
  go_wp2_with fail
  generalize w1.alloc (.cells #[.int .i64 2, .string ⟨n.toArray⟩, .slice y m c, .int .i64 p] 53) = wA at *

  refine (C1.out _ (Below.refl _ _)).mono ?_
  rintro e w2 ⟨rfl, hb2⟩
  obtain ⟨b0, b1, b2, b3⟩ := B0.out.below hb2
  have HB2 := Lib.hid hb2
  clear C1 hb2
  cases bp
  · have HR2 : Hid (R = false) := by
      show R = false
      rw [HR.out]
      simp
    clear HR
    go_wp2_with fail
    go_ret
    exact ⟨by rw [HR2.out]; rfl, tr HA.out HB2.out⟩
  · by_cases hl : m = 2
    · subst hl
      obtain ⟨x0, x1, rfl⟩ := len_two HL.out
      have HR2 : Hid (R = (tstR 4 x0 && tstR 0 x1)) := by
        show R = _
        rw [HR.out]
        show (true && (tstR 4 x0 && (tstR 0 x1 && true))) = _
        simp
      have hrw := HROW.out
      obtain ⟨B, o, rfl, hat0, hrw⟩ := hrw
      obtain ⟨B', o', e', hat1, hrw⟩ := hrw
      cases e'
      have HAT0 : Hid (∀ W, Below wA.heap.size wA W → NdAt W ok x0 B o) := fun W hW => (hat0).mono_below hW
      have HKN0 : Hid (KnR ok wA x0) := HK.out x0 (by simp)
      obtain ⟨t0, ht0⟩ : ∃ t, tstR 4 x0 = t := ⟨_, rfl⟩
      have HT0 := Lib.hid ht0
      rw [ht0] at HR2
      clear ht0 hat0
      have HAT1 : Hid (∀ W, Below wA.heap.size wA W → NdAt W ok x1 B (o + 4)) := fun W hW => (hat1).mono_below hW
      have HKN1 : Hid (KnR ok wA x1) := HK.out x1 (by simp)
      obtain ⟨t1, ht1⟩ : ∃ t, tstR 0 x1 = t := ⟨_, rfl⟩
      have HT1 := Lib.hid ht1
      rw [ht1] at HR2
      clear ht1 hat1
      clear hrw HR HROW HK
      obtain ⟨k0, nm0, z0, kk0, cc0, p0, e0, y00, y01, y02, y03, hk0⟩ := ((HAT0.out w2 HB2.out)).val
      have c0 := (HKN0.out).2.2.1 (.agg #[.int .i64 k0, .string ⟨nm0.toArray⟩, .slice z0 kk0.length cc0, .int .i64 p0]) w2 HB2.out (by rw [e0]; exact ⟨z0, cc0, rfl, hk0⟩)
      simp only [List.append_toArray, List.cons_append, List.nil_append] at c0
      rw [HT0.out] at c0
      clear hk0 e0
      go_wp2_with fail
      refine c0.mono ?_
      clear c0
      rintro e w3 ⟨rfl, hw3⟩
      have Hw3 := Lib.hid (HB2.out.trans (hw3.mono HB2.out.size))
      obtain ⟨b0, b1, b2, b3⟩ := B0.out.below Hw3.out
      clear hw3 y00 y01 y02 y03
      cases t0
      · have HR3 : Hid (R = false) := by
          show R = false
          rw [HR2.out]
          simp
        clear HR2
        go_wp2_with fail
        go_ret
        exact ⟨by rw [HR3.out]; rfl, tr HA.out Hw3.out⟩
      · have HR3 : Hid (R = t1) := by
          show R = t1
          rw [HR2.out]
          simp
        clear HR2
        obtain ⟨k1, nm1, z1, kk1, cc1, p1, e1, y10, y11, y12, y13, hk1⟩ := ((HAT1.out w3 Hw3.out)).val
        have c1 := (HKN1.out).2.2.2 (.agg #[.int .i64 k1, .string ⟨nm1.toArray⟩, .slice z1 kk1.length cc1, .int .i64 p1]) w3 Hw3.out (by rw [e1]; exact ⟨z1, cc1, rfl, hk1⟩)
        simp only [List.append_toArray, List.cons_append, List.nil_append] at c1
        rw [HT1.out] at c1
        clear hk1 e1
        go_wp2_with fail
        refine c1.mono ?_
        clear c1
        rintro e w4 ⟨rfl, hw4⟩
        have Hw4 := Lib.hid (Hw3.out.trans (hw4.mono Hw3.out.size))
        obtain ⟨b0, b1, b2, b3⟩ := B0.out.below Hw4.out
        clear hw4 y10 y11 y12 y13
        go_wp2_with fail
        go_ret
        exact ⟨by rw [HR3.out]; rfl, tr HA.out Hw4.out⟩
    · have Q : ((m : Int) == 2) = false := beq_eq_false_iff_ne.2 (by omega)
      have HR2 : Hid (R = false) := by
        show R = false
        rw [HR.out]
        cases hs : shR [4, 0] kids
        · rfl
        · have h1 := shR_len _ _ hs
          have h2 := HL.out
          simp at h1
          omega
      clear HR hl
      go_wp2_with fail
      go_ret
      exact ⟨by rw [HR2.out]; rfl, tr HA.out HB2.out⟩

set_option maxHeartbeats 4000000 in
set_option maxRecDepth 100000 in
include hw hG h in
theorem rst3_any : OneQ 101 [] ok stR w0 (.mk 3 n kids p) := by
  intro v w1 hb hv
  obtain ⟨y, c, rfl, hrow⟩ := hv
  have hlen := len_wtL kids
  have hE : stR (.mk 3 n kids p) = (plainR n && shR [4, -1] kids) := by
    rw [stR_eq, if_neg (by decide), if_neg (by decide), if_neg (by decide), if_pos rfl]
  obtain ⟨R, hR⟩ : ∃ R, stR (.mk 3 n kids p) = R := ⟨_, rfl⟩
  rw [hR] at hE ⊢
  have HR := Lib.hid hE
  show Calls _ _ _ _ (Yes _ w1)
  simp only [List.append_toArray, List.cons_append, List.nil_append]
  have hA : Below w1.heap.size w1 (w1.alloc (ndO 3 n y kids.length c p)) := (Below.refl _ _).alloc (Nat.le_refl _) _
  have B0 := Lib.hid (NdBox.new w1 3 n y kids.length c p)
  have HA := Lib.hid hA
  have HROW := Lib.hid (hrow.below hA)
  have HK : Hid (∀ x ∈ kids, KnR ok (w1.alloc (ndO 3 n y kids.length c p)) x) := fun x hx => ((h x hx).below hb).below hA
  have C1 : Hid (∀ W, Below (w1.alloc (ndO 3 n y kids.length c p)).heap.size (w1.alloc (ndO 3 n y kids.length c p)) W → Calls Tryz.prog 153 #[.string ⟨n.toArray⟩] W (Yes (plainR n) W)) := fun W hW =>
    rplain_any n W (by omega) (((hG.below hb).below hA).below hW)
  obtain ⟨m, hm⟩ : ∃ m, kids.length = m := ⟨_, rfl⟩
  rw [hm] at B0 HA C1 HROW HK ⊢
  have HL := Lib.hid hm
  unfold ndO at B0 HA C1 HROW HK
  obtain ⟨bp, hbp⟩ : ∃ b, plainR n = b := ⟨_, rfl⟩
  rw [hbp] at C1 HR
  clear hrow hb hA hw hE hG hm hlen hR hbp h
  go_enter Tryz.func101, Tryz.ntmps101
  go_wp2_with fail
  generalize w1.alloc (.cells #[.int .i64 3, .string ⟨n.toArray⟩, .slice y m c, .int .i64 p] 53) = wA at *

  refine (C1.out _ (Below.refl _ _)).mono ?_
  rintro e w2 ⟨rfl, hb2⟩
  obtain ⟨b0, b1, b2, b3⟩ := B0.out.below hb2
  have HB2 := Lib.hid hb2
  clear C1 hb2
  cases bp
  · have HR2 : Hid (R = false) := by
      show R = false
      rw [HR.out]
      simp
    clear HR
    go_wp2_with fail
    go_ret
    exact ⟨by rw [HR2.out]; rfl, tr HA.out HB2.out⟩
  · by_cases hl : m = 2
    · subst hl
      obtain ⟨x0, x1, rfl⟩ := len_two HL.out
      have HR2 : Hid (R = (tstR 4 x0 && tstR (-1) x1)) := by
        show R = _
        rw [HR.out]
        show (true && (tstR 4 x0 && (tstR (-1) x1 && true))) = _
        simp
      have hrw := HROW.out
      obtain ⟨B, o, rfl, hat0, hrw⟩ := hrw
      obtain ⟨B', o', e', hat1, hrw⟩ := hrw
      cases e'
      have HAT0 : Hid (∀ W, Below wA.heap.size wA W → NdAt W ok x0 B o) := fun W hW => (hat0).mono_below hW
      have HKN0 : Hid (KnR ok wA x0) := HK.out x0 (by simp)
      obtain ⟨t0, ht0⟩ : ∃ t, tstR 4 x0 = t := ⟨_, rfl⟩
      have HT0 := Lib.hid ht0
      rw [ht0] at HR2
      clear ht0 hat0
      have HAT1 : Hid (∀ W, Below wA.heap.size wA W → NdAt W ok x1 B (o + 4)) := fun W hW => (hat1).mono_below hW
      have HKN1 : Hid (KnR ok wA x1) := HK.out x1 (by simp)
      obtain ⟨t1, ht1⟩ : ∃ t, tstR (-1) x1 = t := ⟨_, rfl⟩
      have HT1 := Lib.hid ht1
      rw [ht1] at HR2
      clear ht1 hat1
      clear hrw HR HROW HK
      obtain ⟨k0, nm0, z0, kk0, cc0, p0, e0, y00, y01, y02, y03, hk0⟩ := ((HAT0.out w2 HB2.out)).val
      have c0 := (HKN0.out).2.2.1 (.agg #[.int .i64 k0, .string ⟨nm0.toArray⟩, .slice z0 kk0.length cc0, .int .i64 p0]) w2 HB2.out (by rw [e0]; exact ⟨z0, cc0, rfl, hk0⟩)
      simp only [List.append_toArray, List.cons_append, List.nil_append] at c0
      rw [HT0.out] at c0
      clear hk0 e0
      go_wp2_with fail
      refine c0.mono ?_
      clear c0
      rintro e w3 ⟨rfl, hw3⟩
      have Hw3 := Lib.hid (HB2.out.trans (hw3.mono HB2.out.size))
      obtain ⟨b0, b1, b2, b3⟩ := B0.out.below Hw3.out
      clear hw3 y00 y01 y02 y03
      cases t0
      · have HR3 : Hid (R = false) := by
          show R = false
          rw [HR2.out]
          simp
        clear HR2
        go_wp2_with fail
        go_ret
        exact ⟨by rw [HR3.out]; rfl, tr HA.out Hw3.out⟩
      · have HR3 : Hid (R = t1) := by
          show R = t1
          rw [HR2.out]
          simp
        clear HR2
        obtain ⟨k1, nm1, z1, kk1, cc1, p1, e1, y10, y11, y12, y13, hk1⟩ := ((HAT1.out w3 Hw3.out)).val
        have c1 := (HKN1.out).1 (.agg #[.int .i64 k1, .string ⟨nm1.toArray⟩, .slice z1 kk1.length cc1, .int .i64 p1]) w3 Hw3.out (by rw [e1]; exact ⟨z1, cc1, rfl, hk1⟩)
        simp only [List.append_toArray, List.cons_append, List.nil_append] at c1
        rw [HT1.out] at c1
        clear hk1 e1
        go_wp2_with fail
        refine c1.mono ?_
        clear c1
        rintro e w4 ⟨rfl, hw4⟩
        have Hw4 := Lib.hid (Hw3.out.trans (hw4.mono Hw3.out.size))
        obtain ⟨b0, b1, b2, b3⟩ := B0.out.below Hw4.out
        clear hw4 y10 y11 y12 y13
        go_wp2_with fail
        go_ret
        exact ⟨by rw [HR3.out]; rfl, tr HA.out Hw4.out⟩
    · have Q : ((m : Int) == 2) = false := beq_eq_false_iff_ne.2 (by omega)
      have HR2 : Hid (R = false) := by
        show R = false
        rw [HR.out]
        cases hs : shR [4, -1] kids
        · rfl
        · have h1 := shR_len _ _ hs
          have h2 := HL.out
          simp at h1
          omega
      clear HR hl
      go_wp2_with fail
      go_ret
      exact ⟨by rw [HR2.out]; rfl, tr HA.out HB2.out⟩
end
end Go.Proofs.YtpbkeamjdolpgaaGreatDoor
