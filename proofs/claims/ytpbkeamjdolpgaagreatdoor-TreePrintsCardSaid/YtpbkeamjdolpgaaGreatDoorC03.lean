/- The walks of the reference's statement: loops, conditions, calls. The walks of the statements' twin and same, and of the reference's deep. The reference's statement, whole; its Check. -/
import Derived.Test.YtpbkeamjdolpgaaGreatDoorC02
import Derived.Test.YtpbkeamjdolpgaaGreatDoorB24
import Derived.Test.YtpbkeamjdolpgaaGreatDoorC01
namespace Go.Proofs.YtpbkeamjdolpgaaGreatDoor
open Go.RowKit Go.Lib Go.Shelf Go.Sort

section
variable (ok : Nat → Prop) (w0 : World) (n : List UInt8) (kids : List Nd) (p : Int) (hw : wtL kids + n.length < 2 ^ 40) (hG : Gl w0) (h : ∀ x ∈ kids, KnR ok w0 x)
set_option maxHeartbeats 4000000 in
set_option maxRecDepth 100000 in
include hw hG h in
theorem rst5_any : OneQ 101 [] ok stR w0 (.mk 5 n kids p) := by
  intro v w1 hb hv
  obtain ⟨y, c, rfl, hrow⟩ := hv
  have hlen := len_wtL kids
  have hE : stR (.mk 5 n kids p) = (plainR n && shR [-1, 0] kids) := by
    rw [stR_eq, if_neg (by decide), if_neg (by decide), if_neg (by decide), if_neg (by decide), if_pos rfl]
  obtain ⟨R, hR⟩ : ∃ R, stR (.mk 5 n kids p) = R := ⟨_, rfl⟩
  rw [hR] at hE ⊢
  have HR := Lib.hid hE
  show Calls _ _ _ _ (Yes _ w1)
  simp only [List.append_toArray, List.cons_append, List.nil_append]
  have hA : Below w1.heap.size w1 (w1.alloc (ndO 5 n y kids.length c p)) := (Below.refl _ _).alloc (Nat.le_refl _) _
  have B0 := Lib.hid (NdBox.new w1 5 n y kids.length c p)
  have HA := Lib.hid hA
  have HROW := Lib.hid (hrow.below hA)
  have HK : Hid (∀ x ∈ kids, KnR ok (w1.alloc (ndO 5 n y kids.length c p)) x) := fun x hx => ((h x hx).below hb).below hA
  have C1 : Hid (∀ W, Below (w1.alloc (ndO 5 n y kids.length c p)).heap.size (w1.alloc (ndO 5 n y kids.length c p)) W → Calls Tryz.prog 153 #[.string ⟨n.toArray⟩] W (Yes (plainR n) W)) := fun W hW =>
    rplain_any n W (by omega) (((hG.below hb).below hA).below hW)
  obtain ⟨m, hm⟩ : ∃ m, kids.length = m := ⟨_, rfl⟩
  rw [hm] at B0 HA C1 HROW HK ⊢
  have HL := Lib.hid hm
  unfold ndO at B0 HA C1 HROW HK
  obtain ⟨bp, hbp⟩ : ∃ b, plainR n = b := ⟨_, rfl⟩
  rw [hbp] at C1 HR
  clear hrow hb hA hw hE hG hm hlen hR hbp h
  go_enter Tryz.func101, Tryz.ntmps101
  go_wp2_with fail
  generalize w1.alloc (.cells #[.int .i64 5, .string ⟨n.toArray⟩, .slice y m c, .int .i64 p] 53) = wA at *

  refine (C1.out _ (Below.refl _ _)).mono ?_
  rintro e w2 ⟨rfl, hb2⟩
  obtain ⟨b0, b1, b2, b3⟩ := B0.out.below hb2
  have HB2 := Lib.hid hb2
  clear C1 hb2
  cases bp
  · have HR2 : Hid (R = false) := by
      show R = false
      rw [HR.out]
      simp
    clear HR
    go_wp2_with fail
    go_ret
    exact ⟨by rw [HR2.out]; rfl, tr HA.out HB2.out⟩
  · by_cases hl : m = 2
    · subst hl
      obtain ⟨x0, x1, rfl⟩ := len_two HL.out
      have HR2 : Hid (R = (tstR (-1) x0 && tstR 0 x1)) := by
        show R = _
        rw [HR.out]
        show (true && (tstR (-1) x0 && (tstR 0 x1 && true))) = _
        simp
      have hrw := HROW.out
      obtain ⟨B, o, rfl, hat0, hrw⟩ := hrw
      obtain ⟨B', o', e', hat1, hrw⟩ := hrw
      cases e'
      have HAT0 : Hid (∀ W, Below wA.heap.size wA W → NdAt W ok x0 B o) := fun W hW => (hat0).mono_below hW
      have HKN0 : Hid (KnR ok wA x0) := HK.out x0 (by simp)
      obtain ⟨t0, ht0⟩ : ∃ t, tstR (-1) x0 = t := ⟨_, rfl⟩
      have HT0 := Lib.hid ht0
      rw [ht0] at HR2
      clear ht0 hat0
      have HAT1 : Hid (∀ W, Below wA.heap.size wA W → NdAt W ok x1 B (o + 4)) := fun W hW => (hat1).mono_below hW
      have HKN1 : Hid (KnR ok wA x1) := HK.out x1 (by simp)
      obtain ⟨t1, ht1⟩ : ∃ t, tstR 0 x1 = t := ⟨_, rfl⟩
      have HT1 := Lib.hid ht1
      rw [ht1] at HR2
      clear ht1 hat1
      clear hrw HR HROW HK
      obtain ⟨k0, nm0, z0, kk0, cc0, p0, e0, y00, y01, y02, y03, hk0⟩ := ((HAT0.out w2 HB2.out)).val
      have c0 := (HKN0.out).1 (.agg #[.int .i64 k0, .string ⟨nm0.toArray⟩, .slice z0 kk0.length cc0, .int .i64 p0]) w2 HB2.out (by rw [e0]; exact ⟨z0, cc0, rfl, hk0⟩)
      simp only [List.append_toArray, List.cons_append, List.nil_append] at c0
      rw [HT0.out] at c0
      clear hk0 e0
      go_wp2_with fail
      refine c0.mono ?_
      clear c0
      rintro e w3 ⟨rfl, hw3⟩
      have Hw3 := Lib.hid (HB2.out.trans (hw3.mono HB2.out.size))
      obtain ⟨b0, b1, b2, b3⟩ := B0.out.below Hw3.out
      clear hw3 y00 y01 y02 y03
      cases t0
      · have HR3 : Hid (R = false) := by
          show R = false
          rw [HR2.out]
          simp
        clear HR2
        go_wp2_with fail
        go_ret
        exact ⟨by rw [HR3.out]; rfl, tr HA.out Hw3.out⟩
      · have HR3 : Hid (R = t1) := by
          show R = t1
          rw [HR2.out]
          simp
        clear HR2
        obtain ⟨k1, nm1, z1, kk1, cc1, p1, e1, y10, y11, y12, y13, hk1⟩ := ((HAT1.out w3 Hw3.out)).val
        have c1 := (HKN1.out).2.2.2 (.agg #[.int .i64 k1, .string ⟨nm1.toArray⟩, .slice z1 kk1.length cc1, .int .i64 p1]) w3 Hw3.out (by rw [e1]; exact ⟨z1, cc1, rfl, hk1⟩)
        simp only [List.append_toArray, List.cons_append, List.nil_append] at c1
        rw [HT1.out] at c1
        clear hk1 e1
        go_wp2_with fail
        refine c1.mono ?_
        clear c1
        rintro e w4 ⟨rfl, hw4⟩
        have Hw4 := Lib.hid (Hw3.out.trans (hw4.mono Hw3.out.size))
        obtain ⟨b0, b1, b2, b3⟩ := B0.out.below Hw4.out
        clear hw4 y10 y11 y12 y13
        go_wp2_with fail
        go_ret
        exact ⟨by rw [HR3.out]; rfl, tr HA.out Hw4.out⟩
    · have Q : ((m : Int) == 2) = false := beq_eq_false_iff_ne.2 (by omega)
      have HR2 : Hid (R = false) := by
        show R = false
        rw [HR.out]
        cases hs : shR [-1, 0] kids
        · rfl
        · have h1 := shR_len _ _ hs
          have h2 := HL.out
          simp at h1
          omega
      clear HR hl
      go_wp2_with fail
      go_ret
      exact ⟨by rw [HR2.out]; rfl, tr HA.out HB2.out⟩

set_option maxHeartbeats 4000000 in
set_option maxRecDepth 100000 in
include hw hG in
theorem rstno_any (k : Int) (hk : k ≠ 6) (hP : plainR n = false) : OneQ 101 [] ok stR w0 (.mk k n kids p) := by
  intro v w1 hb hv
  obtain ⟨y, c, rfl, hrow⟩ := hv
  have hE : stR (.mk k n kids p) = false := by
    rw [stR_eq, if_neg hk, hP, Bool.false_and]
  rw [hE]
  show Calls _ _ _ _ (Yes _ w1)
  simp only [List.append_toArray, List.cons_append, List.nil_append]
  have hA : Below w1.heap.size w1 (w1.alloc (ndO k n y kids.length c p)) := (Below.refl _ _).alloc (Nat.le_refl _) _
  have HA := Lib.hid hA
  have c1 := rplain_any n _ (by omega) ((hG.below hb).below hA)
  rw [hP] at c1
  unfold ndO at c1
  have Q6 : (k != 6) = true := by simpa using hk
  clear hrow hb hA hE hk hP hw hG
  go_enter Tryz.func101, Tryz.ntmps101
  go_wp2_with fail
  refine c1.mono ?_
  clear c1
  rintro e w2 ⟨rfl, hb2⟩
  go_wp2_with fail
  go_ret
  exact ⟨rfl, tr HA.out hb2⟩

set_option maxHeartbeats 4000000 in
set_option maxRecDepth 100000 in
include hw hG in
theorem rstk_any (k : Int) (hk6 : k ≠ 6) (hk : k < 1 ∨ 3 < k) (hk5 : k ≠ 5) (hk7 : k ≠ 7) (hP : plainR n = true) : OneQ 101 [] ok stR w0 (.mk k n kids p) := by
  intro v w1 hb hv
  obtain ⟨y, c, rfl, hrow⟩ := hv
  have hE : stR (.mk k n kids p) = false := by
    rw [stR_eq, if_neg hk6, if_neg (by omega), if_neg (by omega), if_neg (by omega), if_neg hk5, if_neg hk7, Bool.and_false]
  rw [hE]
  show Calls _ _ _ _ (Yes _ w1)
  simp only [List.append_toArray, List.cons_append, List.nil_append]
  have hA : Below w1.heap.size w1 (w1.alloc (ndO k n y kids.length c p)) := (Below.refl _ _).alloc (Nat.le_refl _) _
  have HA := Lib.hid hA
  have B0 := Lib.hid (NdBox.new w1 k n y kids.length c p)
  have c1 := rplain_any n _ (by omega) ((hG.below hb).below hA)
  rw [hP] at c1
  unfold ndO at c1 B0
  have Q6 : (k != 6) = true := by simpa using hk6
  have Q1 : (k == 1) = false := beq_eq_false_iff_ne.2 (by omega)
  have Q2 : (k == 2) = false := beq_eq_false_iff_ne.2 (by omega)
  have Q3 : (k == 3) = false := beq_eq_false_iff_ne.2 (by omega)
  have Q5 : (k == 5) = false := beq_eq_false_iff_ne.2 hk5
  have Q66 : (k == 6) = false := beq_eq_false_iff_ne.2 hk6
  have Q7 : (k == 7) = false := beq_eq_false_iff_ne.2 hk7
  clear hrow hb hA hE hk hk6 hk5 hk7 hP hw hG
  go_enter Tryz.func101, Tryz.ntmps101
  go_wp2_with fail
  refine c1.mono ?_
  clear c1
  rintro e w2 ⟨rfl, hb2⟩
  obtain ⟨b0, b1, b2, b3⟩ := B0.out.below hb2
  go_wp2_with fail
  go_ret
  exact ⟨rfl, tr HA.out hb2⟩

set_option maxHeartbeats 4000000 in
set_option maxRecDepth 100000 in
include hw h in
theorem rst6_no (hno : n ≠ [] ∨ kids.length < 2 ∨ 3 < kids.length) : OneQ 101 [] ok stR w0 (.mk 6 n kids p) := by
  intro v w1 hb hv
  obtain ⟨y, c, rfl, hrow⟩ := hv
  have hlen := len_wtL kids
  have hE : stR (.mk 6 n kids p) = (n.isEmpty && shR (if kids.length = 2 then [-1, 0] else [-1, 0, 0]) kids) := by
    rw [stR_eq, if_pos rfl]
  obtain ⟨R, hR⟩ : ∃ R, stR (.mk 6 n kids p) = R := ⟨_, rfl⟩
  rw [hR] at hE ⊢
  have HR := Lib.hid hE
  show Calls _ _ _ _ (Yes _ w1)
  simp only [List.append_toArray, List.cons_append, List.nil_append]
  have hA : Below w1.heap.size w1 (w1.alloc (ndO 6 n y kids.length c p)) := (Below.refl _ _).alloc (Nat.le_refl _) _
  have B0 := Lib.hid (NdBox.new w1 6 n y kids.length c p)
  have HA := Lib.hid hA
  have HROW := Lib.hid (hrow.below hA)
  have HK : Hid (∀ x ∈ kids, KnR ok (w1.alloc (ndO 6 n y kids.length c p)) x) := fun x hx => ((h x hx).below hb).below hA
  obtain ⟨m, hm⟩ : ∃ m, kids.length = m := ⟨_, rfl⟩
  rw [hm] at HA HR hno ⊢
  have hm40 : m < 2 ^ 40 := by omega
  have HR2 : Hid (R = false) := by
    show R = false
    rw [HR.out]
    by_cases hq : n = []
    · cases hs : shR (if m = 2 then [-1, 0] else [-1, 0, 0]) kids
      · simp
      · have h1 := shR_len _ _ hs
        have : ¬ m = 2 := by
          rcases hno with h | h
          · exact absurd hq h
          · omega
        rw [if_neg this] at h1
        simp at h1
        rcases hno with h | h
        · exact absurd hq h
        · omega
    · simp [hq]
  unfold ndO at HA
  clear hrow hb hA hw hE hm hlen hR h HR HROW HK B0
  by_cases hq : n = []
  · subst hq
    have hno2 : m < 2 ∨ 3 < m := hno.resolve_left (fun h => h rfl)
    by_cases h2 : m < 2
    · have Q : (m : Int) < 2 := by omega
      clear hno hno2 h2
      go_enter Tryz.func101, Tryz.ntmps101
      go_wp2_with fail
      go_ret
      exact ⟨by rw [HR2.out]; rfl, HA.out⟩
    · have Q : ¬ (m : Int) < 2 := by omega
      have Q3 : (3 : Int) < (m : Int) := by omega
      clear hno hno2 h2
      go_enter Tryz.func101, Tryz.ntmps101
      go_wp2_with fail
      go_ret
      exact ⟨by rw [HR2.out]; rfl, HA.out⟩
  · have Q : (n != []) = true := by simpa using hq
    have Qb : (n == []) = false := str_ne hq
    clear hno hq
    go_enter Tryz.func101, Tryz.ntmps101
    go_wp2_with fail
    go_ret
    exact ⟨by rw [HR2.out]; rfl, HA.out⟩

set_option maxHeartbeats 4000000 in
set_option maxRecDepth 100000 in
include hw hG in
theorem rst7_no (hno : kids.length < 1 ∨ 2 < kids.length) : OneQ 101 [] ok stR w0 (.mk 7 n kids p) := by
  intro v w1 hb hv
  obtain ⟨y, c, rfl, hrow⟩ := hv
  have hlen := len_wtL kids
  have hE : stR (.mk 7 n kids p) = false := by
    rw [stR_eq, if_neg (by decide), if_neg (by decide), if_neg (by decide), if_neg (by decide), if_neg (by decide), if_pos rfl]
    have : shR (if kids.length = 1 then [8] else [8, 0]) kids = false := by
      cases hs : shR (if kids.length = 1 then [8] else [8, 0]) kids
      · rfl
      · have h1 := shR_len _ _ hs
        rw [if_neg (by omega)] at h1
        simp at h1
        omega
    rw [this, Bool.and_false]
  rw [hE]
  show Calls _ _ _ _ (Yes _ w1)
  simp only [List.append_toArray, List.cons_append, List.nil_append]
  have hA : Below w1.heap.size w1 (w1.alloc (ndO 7 n y kids.length c p)) := (Below.refl _ _).alloc (Nat.le_refl _) _
  have HA := Lib.hid hA
  have B0 := Lib.hid (NdBox.new w1 7 n y kids.length c p)
  have c1 := rplain_any n _ (by omega) ((hG.below hb).below hA)
  obtain ⟨m, hm⟩ : ∃ m, kids.length = m := ⟨_, rfl⟩
  rw [hm] at HA B0 c1 hno hlen ⊢
  have hm40 : m < 2 ^ 40 := by omega
  unfold ndO at c1 B0
  obtain ⟨bp, hbp⟩ : ∃ b, plainR n = b := ⟨_, rfl⟩
  rw [hbp] at c1
  clear hrow hb hA hE hw hG hm hbp hlen
  go_enter Tryz.func101, Tryz.ntmps101
  go_wp2_with fail
  refine c1.mono ?_
  clear c1
  rintro e w2 ⟨rfl, hb2⟩
  obtain ⟨b0, b1, b2, b3⟩ := B0.out.below hb2
  have HB2 := Lib.hid (tr HA.out hb2)
  clear hb2 B0
  cases bp
  · clear hno
    go_wp2_with fail
    go_ret
    exact ⟨rfl, HB2.out⟩
  · by_cases h1 : m < 1
    · have Q : (m : Int) < 1 := by omega
      clear hno h1
      go_wp2_with fail
      go_ret
      exact ⟨rfl, HB2.out⟩
    · have Q : ¬ (m : Int) < 1 := by omega
      have Q2 : (2 : Int) < (m : Int) := by omega
      clear hno h1
      go_wp2_with fail
      go_ret
      exact ⟨rfl, HB2.out⟩
end
section
variable (ok : Nat → Prop) (w0 : World) (n : List UInt8) (p : Int) (hG : Gl w0)
set_option maxHeartbeats 4000000 in
set_option maxRecDepth 100000 in
theorem rst6_two (x0 x1 : Nd) (h : ∀ x ∈ ([x0, x1] : List Nd), KnR ok w0 x) : OneQ 101 [] ok stR w0 (.mk 6 [] [x0, x1] p) := by
  intro v w1 hb hv
  obtain ⟨y, c, rfl, hrow⟩ := hv
  have hE : stR (.mk 6 [] [x0, x1] p) = (tstR (-1) x0 && tstR 0 x1) := by
    rw [stR_eq, if_pos rfl]
    show (true && (tstR (-1) x0 && (tstR 0 x1 && true))) = _
    simp
  obtain ⟨R, hR⟩ : ∃ R, stR (.mk 6 [] [x0, x1] p) = R := ⟨_, rfl⟩
  rw [hR] at hE ⊢
  have HR2 := Lib.hid hE
  show Calls _ _ _ _ (Yes _ w1)
  simp only [List.append_toArray, List.cons_append, List.nil_append]
  have hA : Below w1.heap.size w1 (w1.alloc (ndO 6 [] y 2 c p)) := (Below.refl _ _).alloc (Nat.le_refl _) _
  have B0 := Lib.hid (NdBox.new w1 6 [] y 2 c p)
  have HA := Lib.hid hA
  have hrw := hrow.below hA
  have HK : Hid (∀ x ∈ ([x0, x1] : List Nd), KnR ok (w1.alloc (ndO 6 [] y 2 c p)) x) := fun x hx => ((h x hx).below hb).below hA
  obtain ⟨B, o, rfl, hat0, hrw⟩ := hrw
  obtain ⟨B', o', e', hat1, hrw⟩ := hrw
  cases e'
  show Calls _ _ #[.agg #[.int .i64 6, .string ⟨([] : List UInt8).toArray⟩, .slice (some ⟨B, o, none⟩) 2 c, .int .i64 p]] _ _
  unfold ndO at B0 HA HK hat0 hat1
  obtain ⟨k0, nm0, z0, kk0, cc0, p0, e0, y00, y01, y02, y03, hk0⟩ := hat0.val
  have c0 := (HK.out x0 (by simp)).1 (.agg #[.int .i64 k0, .string ⟨nm0.toArray⟩, .slice z0 kk0.length cc0, .int .i64 p0]) _ (Below.refl _ _) (by rw [e0]; exact ⟨z0, cc0, rfl, hk0⟩)
  simp only [List.append_toArray, List.cons_append, List.nil_append] at c0
  clear hk0 e0
  clear hrw hrow hb hA hE hR h
  go_enter Tryz.func101, Tryz.ntmps101
  go_wp2_with fail
  generalize w1.alloc (.cells #[.int .i64 6, .string ⟨#[]⟩, .slice (some ⟨B, o, none⟩) 2 c, .int .i64 p] 53) = wA at *

  have HBA : Hid (Below wA.heap.size wA wA) := Below.refl _ _
  have HAT0 : Hid (∀ W, Below wA.heap.size wA W → NdAt W ok x0 B o) := fun W hW => hat0.mono_below hW
  have HKN0 : Hid (KnR ok wA x0) := HK.out x0 (by simp)
  obtain ⟨t0, ht0⟩ : ∃ t, tstR (-1) x0 = t := ⟨_, rfl⟩
  have HT0 := Lib.hid ht0
  rw [ht0] at HR2
  clear ht0 hat0
  have HAT1 : Hid (∀ W, Below wA.heap.size wA W → NdAt W ok x1 B (o + 4)) := fun W hW => hat1.mono_below hW
  have HKN1 : Hid (KnR ok wA x1) := HK.out x1 (by simp)
  obtain ⟨t1, ht1⟩ : ∃ t, tstR 0 x1 = t := ⟨_, rfl⟩
  have HT1 := Lib.hid ht1
  rw [ht1] at HR2
  clear ht1 hat1
  clear HK
  rw [HT0.out] at c0
  refine c0.mono ?_
  clear c0
  rintro e w3 ⟨rfl, hw3⟩
  have Hw3 := Lib.hid (HBA.out.trans (hw3.mono HBA.out.size))
  obtain ⟨b0, b1, b2, b3⟩ := B0.out.below Hw3.out
  clear hw3 y00 y01 y02 y03
  cases t0
  · have HR3 : Hid (R = false) := by
      show R = false
      rw [HR2.out]
      simp
    clear HR2
    go_wp2_with fail
    go_ret
    exact ⟨by rw [HR3.out]; rfl, tr HA.out Hw3.out⟩
  · have HR3 : Hid (R = t1) := by
      show R = t1
      rw [HR2.out]
      simp
    clear HR2
    obtain ⟨k1, nm1, z1, kk1, cc1, p1, e1, y10, y11, y12, y13, hk1⟩ := ((HAT1.out w3 Hw3.out)).val
    have c1 := (HKN1.out).2.2.2 (.agg #[.int .i64 k1, .string ⟨nm1.toArray⟩, .slice z1 kk1.length cc1, .int .i64 p1]) w3 Hw3.out (by rw [e1]; exact ⟨z1, cc1, rfl, hk1⟩)
    simp only [List.append_toArray, List.cons_append, List.nil_append] at c1
    rw [HT1.out] at c1
    clear hk1 e1
    go_wp2_with fail
    refine c1.mono ?_
    clear c1
    rintro e w4 ⟨rfl, hw4⟩
    have Hw4 := Lib.hid (Hw3.out.trans (hw4.mono Hw3.out.size))
    obtain ⟨b0, b1, b2, b3⟩ := B0.out.below Hw4.out
    clear hw4 y10 y11 y12 y13
    go_wp2_with fail
    go_ret
    exact ⟨by rw [HR3.out]; rfl, tr HA.out Hw4.out⟩

set_option maxHeartbeats 4000000 in
set_option maxRecDepth 100000 in
theorem rst6_three (x0 x1 x2 : Nd) (h : ∀ x ∈ ([x0, x1, x2] : List Nd), KnR ok w0 x) : OneQ 101 [] ok stR w0 (.mk 6 [] [x0, x1, x2] p) := by
  intro v w1 hb hv
  obtain ⟨y, c, rfl, hrow⟩ := hv
  have hE : stR (.mk 6 [] [x0, x1, x2] p) = (tstR (-1) x0 && tstR 0 x1 && tstR 0 x2) := by
    rw [stR_eq, if_pos rfl]
    show (true && (tstR (-1) x0 && (tstR 0 x1 && (tstR 0 x2 && true)))) = _
    simp [Bool.and_assoc]
  obtain ⟨R, hR⟩ : ∃ R, stR (.mk 6 [] [x0, x1, x2] p) = R := ⟨_, rfl⟩
  rw [hR] at hE ⊢
  have HR2 := Lib.hid hE
  show Calls _ _ _ _ (Yes _ w1)
  simp only [List.append_toArray, List.cons_append, List.nil_append]
  have hA : Below w1.heap.size w1 (w1.alloc (ndO 6 [] y 3 c p)) := (Below.refl _ _).alloc (Nat.le_refl _) _
  have B0 := Lib.hid (NdBox.new w1 6 [] y 3 c p)
  have HA := Lib.hid hA
  have hrw := hrow.below hA
  have HK : Hid (∀ x ∈ ([x0, x1, x2] : List Nd), KnR ok (w1.alloc (ndO 6 [] y 3 c p)) x) := fun x hx => ((h x hx).below hb).below hA
  obtain ⟨B, o, rfl, hat0, hrw⟩ := hrw
  obtain ⟨B', o', e', hat1, hrw⟩ := hrw
  cases e'
  obtain ⟨B', o', e', hat2, hrw⟩ := hrw
  cases e'
  show Calls _ _ #[.agg #[.int .i64 6, .string ⟨([] : List UInt8).toArray⟩, .slice (some ⟨B, o, none⟩) 3 c, .int .i64 p]] _ _
  unfold ndO at B0 HA HK hat0 hat1 hat2
  obtain ⟨k2, nm2, z2, kk2, cc2, p2, e2, y20, y21, y22, y23, hk2⟩ := hat2.val
  have c2 := (HK.out x2 (by simp)).2.2.2 (.agg #[.int .i64 k2, .string ⟨nm2.toArray⟩, .slice z2 kk2.length cc2, .int .i64 p2]) _ (Below.refl _ _) (by rw [e2]; exact ⟨z2, cc2, rfl, hk2⟩)
  simp only [List.append_toArray, List.cons_append, List.nil_append] at c2
  clear hk2 e2
  clear hrw hrow hb hA hE hR h
  go_enter Tryz.func101, Tryz.ntmps101
  go_wp2_with fail
  generalize w1.alloc (.cells #[.int .i64 6, .string ⟨#[]⟩, .slice (some ⟨B, o, none⟩) 3 c, .int .i64 p] 53) = wA at *

  have HBA : Hid (Below wA.heap.size wA wA) := Below.refl _ _
  have HAT0 : Hid (∀ W, Below wA.heap.size wA W → NdAt W ok x0 B o) := fun W hW => hat0.mono_below hW
  have HKN0 : Hid (KnR ok wA x0) := HK.out x0 (by simp)
  obtain ⟨t0, ht0⟩ : ∃ t, tstR (-1) x0 = t := ⟨_, rfl⟩
  have HT0 := Lib.hid ht0
  rw [ht0] at HR2
  clear ht0 hat0
  have HAT1 : Hid (∀ W, Below wA.heap.size wA W → NdAt W ok x1 B (o + 4)) := fun W hW => hat1.mono_below hW
  have HKN1 : Hid (KnR ok wA x1) := HK.out x1 (by simp)
  obtain ⟨t1, ht1⟩ : ∃ t, tstR 0 x1 = t := ⟨_, rfl⟩
  have HT1 := Lib.hid ht1
  rw [ht1] at HR2
  clear ht1 hat1
  have HAT2 : Hid (∀ W, Below wA.heap.size wA W → NdAt W ok x2 B (o + 8)) := fun W hW => hat2.mono_below hW
  have HKN2 : Hid (KnR ok wA x2) := HK.out x2 (by simp)
  obtain ⟨t2, ht2⟩ : ∃ t, tstR 0 x2 = t := ⟨_, rfl⟩
  have HT2 := Lib.hid ht2
  rw [ht2] at HR2
  clear ht2 hat2
  clear HK
  rw [HT2.out] at c2
  refine c2.mono ?_
  clear c2
  rintro e w3 ⟨rfl, hw3⟩
  have Hw3 := Lib.hid (HBA.out.trans (hw3.mono HBA.out.size))
  obtain ⟨b0, b1, b2, b3⟩ := B0.out.below Hw3.out
  clear hw3 y20 y21 y22 y23
  cases t2
  · have HR3 : Hid (R = false) := by
      show R = false
      rw [HR2.out]
      simp
    clear HR2
    go_wp2_with fail
    go_ret
    exact ⟨by rw [HR3.out]; rfl, tr HA.out Hw3.out⟩
  · have HR3 : Hid (R = (t0 && t1)) := by
      show R = (t0 && t1)
      rw [HR2.out]
      simp
    clear HR2
    obtain ⟨k0, nm0, z0, kk0, cc0, p0, e0, y00, y01, y02, y03, hk0⟩ := ((HAT0.out w3 Hw3.out)).val
    have c0 := (HKN0.out).1 (.agg #[.int .i64 k0, .string ⟨nm0.toArray⟩, .slice z0 kk0.length cc0, .int .i64 p0]) w3 Hw3.out (by rw [e0]; exact ⟨z0, cc0, rfl, hk0⟩)
    simp only [List.append_toArray, List.cons_append, List.nil_append] at c0
    rw [HT0.out] at c0
    clear hk0 e0
    go_wp2_with fail
    refine c0.mono ?_
    clear c0
    rintro e w4 ⟨rfl, hw4⟩
    have Hw4 := Lib.hid (Hw3.out.trans (hw4.mono Hw3.out.size))
    obtain ⟨b0, b1, b2, b3⟩ := B0.out.below Hw4.out
    clear hw4 y00 y01 y02 y03
    cases t0
    · have HR4 : Hid (R = false) := by
        show R = false
        rw [HR3.out]
        simp
      clear HR3
      go_wp2_with fail
      go_ret
      exact ⟨by rw [HR4.out]; rfl, tr HA.out Hw4.out⟩
    · have HR4 : Hid (R = t1) := by
        show R = t1
        rw [HR3.out]
        simp
      clear HR3
      obtain ⟨k1, nm1, z1, kk1, cc1, p1, e1, y10, y11, y12, y13, hk1⟩ := ((HAT1.out w4 Hw4.out)).val
      have c1 := (HKN1.out).2.2.2 (.agg #[.int .i64 k1, .string ⟨nm1.toArray⟩, .slice z1 kk1.length cc1, .int .i64 p1]) w4 Hw4.out (by rw [e1]; exact ⟨z1, cc1, rfl, hk1⟩)
      simp only [List.append_toArray, List.cons_append, List.nil_append] at c1
      rw [HT1.out] at c1
      clear hk1 e1
      go_wp2_with fail
      refine c1.mono ?_
      clear c1
      rintro e w5 ⟨rfl, hw5⟩
      have Hw5 := Lib.hid (Hw4.out.trans (hw5.mono Hw4.out.size))
      obtain ⟨b0, b1, b2, b3⟩ := B0.out.below Hw5.out
      clear hw5 y10 y11 y12 y13
      go_wp2_with fail
      go_ret
      exact ⟨by rw [HR4.out]; rfl, tr HA.out Hw5.out⟩

set_option maxHeartbeats 4000000 in
set_option maxRecDepth 100000 in
include hG in
theorem rst7_one (x0 : Nd) (h : ∀ x ∈ ([x0] : List Nd), KnR ok w0 x) (hn : n.length < 2 ^ 40) : OneQ 101 [] ok stR w0 (.mk 7 n [x0] p) := by
  intro v w1 hb hv
  obtain ⟨y, c, rfl, hrow⟩ := hv
  have hE : stR (.mk 7 n [x0] p) = (plainR n && tstR 8 x0) := by
    rw [stR_eq, if_neg (by decide), if_neg (by decide), if_neg (by decide), if_neg (by decide), if_neg (by decide), if_pos rfl]
    show (plainR n && (tstR 8 x0 && true)) = _
    simp
  obtain ⟨R, hR⟩ : ∃ R, stR (.mk 7 n [x0] p) = R := ⟨_, rfl⟩
  rw [hR] at hE ⊢
  have HR2 := Lib.hid hE
  show Calls _ _ _ _ (Yes _ w1)
  simp only [List.append_toArray, List.cons_append, List.nil_append]
  have hA : Below w1.heap.size w1 (w1.alloc (ndO 7 n y 1 c p)) := (Below.refl _ _).alloc (Nat.le_refl _) _
  have B0 := Lib.hid (NdBox.new w1 7 n y 1 c p)
  have HA := Lib.hid hA
  have hrw := hrow.below hA
  have HK : Hid (∀ x ∈ ([x0] : List Nd), KnR ok (w1.alloc (ndO 7 n y 1 c p)) x) := fun x hx => ((h x hx).below hb).below hA
  have C1 : Hid (∀ W, Below (w1.alloc (ndO 7 n y 1 c p)).heap.size (w1.alloc (ndO 7 n y 1 c p)) W → Calls Tryz.prog 153 #[.string ⟨n.toArray⟩] W (Yes (plainR n) W)) := fun W hW =>
    rplain_any n W (by omega) (((hG.below hb).below hA).below hW)
  obtain ⟨B, o, rfl, hat0, hrw⟩ := hrw
  show Calls _ _ #[.agg #[.int .i64 7, .string ⟨(n : List UInt8).toArray⟩, .slice (some ⟨B, o, none⟩) 1 c, .int .i64 p]] _ _
  unfold ndO at B0 HA HK hat0 C1
  obtain ⟨bp, hbp⟩ : ∃ b, plainR n = b := ⟨_, rfl⟩
  rw [hbp] at C1 HR2
  clear hrw hrow hb hA hE hR h hbp hG hn
  go_enter Tryz.func101, Tryz.ntmps101
  go_wp2_with fail
  generalize w1.alloc (.cells #[.int .i64 7, .string ⟨n.toArray⟩, .slice (some ⟨B, o, none⟩) 1 c, .int .i64 p] 53) = wA at *

  have HAT0 : Hid (∀ W, Below wA.heap.size wA W → NdAt W ok x0 B o) := fun W hW => hat0.mono_below hW
  have HKN0 : Hid (KnR ok wA x0) := HK.out x0 (by simp)
  obtain ⟨t0, ht0⟩ : ∃ t, tstR 8 x0 = t := ⟨_, rfl⟩
  have HT0 := Lib.hid ht0
  rw [ht0] at HR2
  clear ht0 hat0
  clear HK
  refine (C1.out _ (Below.refl _ _)).mono ?_
  rintro e w2 ⟨rfl, hb2⟩
  obtain ⟨b0, b1, b2, b3⟩ := B0.out.below hb2
  have HB2 := Lib.hid hb2
  clear C1 hb2
  cases bp
  · have HR3 : Hid (R = false) := by
      show R = false
      rw [HR2.out]
      simp
    clear HR2
    go_wp2_with fail
    go_ret
    exact ⟨by rw [HR3.out]; rfl, tr HA.out HB2.out⟩
  · have HR3 : Hid (R = t0) := by
      show R = t0
      rw [HR2.out]
      simp
    clear HR2
    obtain ⟨k0, nm0, z0, kk0, cc0, p0, e0, y00, y01, y02, y03, hk0⟩ := ((HAT0.out w2 HB2.out)).val
    have c0 := (HKN0.out).2.1 (.agg #[.int .i64 k0, .string ⟨nm0.toArray⟩, .slice z0 kk0.length cc0, .int .i64 p0]) w2 HB2.out (by rw [e0]; exact ⟨z0, cc0, rfl, hk0⟩)
    simp only [List.append_toArray, List.cons_append, List.nil_append] at c0
    rw [HT0.out] at c0
    clear hk0 e0
    go_wp2_with fail
    refine c0.mono ?_
    clear c0
    rintro e w3 ⟨rfl, hw3⟩
    have Hw3 := Lib.hid (HB2.out.trans (hw3.mono HB2.out.size))
    obtain ⟨b0, b1, b2, b3⟩ := B0.out.below Hw3.out
    clear hw3 y00 y01 y02 y03
    go_wp2_with fail
    go_ret
    exact ⟨by rw [HR3.out]; rfl, tr HA.out Hw3.out⟩

set_option maxHeartbeats 4000000 in
set_option maxRecDepth 100000 in
include hG in
theorem rst7_two (x0 x1 : Nd) (h : ∀ x ∈ ([x0, x1] : List Nd), KnR ok w0 x) (hn : n.length < 2 ^ 40) : OneQ 101 [] ok stR w0 (.mk 7 n [x0, x1] p) := by
  intro v w1 hb hv
  obtain ⟨y, c, rfl, hrow⟩ := hv
  have hE : stR (.mk 7 n [x0, x1] p) = (plainR n && (tstR 8 x0 && tstR 0 x1)) := by
    rw [stR_eq, if_neg (by decide), if_neg (by decide), if_neg (by decide), if_neg (by decide), if_neg (by decide), if_pos rfl]
    show (plainR n && (tstR 8 x0 && (tstR 0 x1 && true))) = _
    simp
  obtain ⟨R, hR⟩ : ∃ R, stR (.mk 7 n [x0, x1] p) = R := ⟨_, rfl⟩
  rw [hR] at hE ⊢
  have HR2 := Lib.hid hE
  show Calls _ _ _ _ (Yes _ w1)
  simp only [List.append_toArray, List.cons_append, List.nil_append]
  have hA : Below w1.heap.size w1 (w1.alloc (ndO 7 n y 2 c p)) := (Below.refl _ _).alloc (Nat.le_refl _) _
  have B0 := Lib.hid (NdBox.new w1 7 n y 2 c p)
  have HA := Lib.hid hA
  have hrw := hrow.below hA
  have HK : Hid (∀ x ∈ ([x0, x1] : List Nd), KnR ok (w1.alloc (ndO 7 n y 2 c p)) x) := fun x hx => ((h x hx).below hb).below hA
  have C1 : Hid (∀ W, Below (w1.alloc (ndO 7 n y 2 c p)).heap.size (w1.alloc (ndO 7 n y 2 c p)) W → Calls Tryz.prog 153 #[.string ⟨n.toArray⟩] W (Yes (plainR n) W)) := fun W hW =>
    rplain_any n W (by omega) (((hG.below hb).below hA).below hW)
  obtain ⟨B, o, rfl, hat0, hrw⟩ := hrw
  obtain ⟨B', o', e', hat1, hrw⟩ := hrw
  cases e'
  show Calls _ _ #[.agg #[.int .i64 7, .string ⟨(n : List UInt8).toArray⟩, .slice (some ⟨B, o, none⟩) 2 c, .int .i64 p]] _ _
  unfold ndO at B0 HA HK hat0 hat1 C1
  obtain ⟨bp, hbp⟩ : ∃ b, plainR n = b := ⟨_, rfl⟩
  rw [hbp] at C1 HR2
  clear hrw hrow hb hA hE hR h hbp hG hn
  go_enter Tryz.func101, Tryz.ntmps101
  go_wp2_with fail
  generalize w1.alloc (.cells #[.int .i64 7, .string ⟨n.toArray⟩, .slice (some ⟨B, o, none⟩) 2 c, .int .i64 p] 53) = wA at *

  have HAT0 : Hid (∀ W, Below wA.heap.size wA W → NdAt W ok x0 B o) := fun W hW => hat0.mono_below hW
  have HKN0 : Hid (KnR ok wA x0) := HK.out x0 (by simp)
  obtain ⟨t0, ht0⟩ : ∃ t, tstR 8 x0 = t := ⟨_, rfl⟩
  have HT0 := Lib.hid ht0
  rw [ht0] at HR2
  clear ht0 hat0
  have HAT1 : Hid (∀ W, Below wA.heap.size wA W → NdAt W ok x1 B (o + 4)) := fun W hW => hat1.mono_below hW
  have HKN1 : Hid (KnR ok wA x1) := HK.out x1 (by simp)
  obtain ⟨t1, ht1⟩ : ∃ t, tstR 0 x1 = t := ⟨_, rfl⟩
  have HT1 := Lib.hid ht1
  rw [ht1] at HR2
  clear ht1 hat1
  clear HK
  refine (C1.out _ (Below.refl _ _)).mono ?_
  rintro e w2 ⟨rfl, hb2⟩
  obtain ⟨b0, b1, b2, b3⟩ := B0.out.below hb2
  have HB2 := Lib.hid hb2
  clear C1 hb2
  cases bp
  · have HR3 : Hid (R = false) := by
      show R = false
      rw [HR2.out]
      simp
    clear HR2
    go_wp2_with fail
    go_ret
    exact ⟨by rw [HR3.out]; rfl, tr HA.out HB2.out⟩
  · obtain ⟨k1, nm1, z1, kk1, cc1, p1, e1, y10, y11, y12, y13, hk1⟩ := ((HAT1.out w2 HB2.out)).val
    have c1 := (HKN1.out).2.2.2 (.agg #[.int .i64 k1, .string ⟨nm1.toArray⟩, .slice z1 kk1.length cc1, .int .i64 p1]) w2 HB2.out (by rw [e1]; exact ⟨z1, cc1, rfl, hk1⟩)
    simp only [List.append_toArray, List.cons_append, List.nil_append] at c1
    rw [HT1.out] at c1
    clear hk1 e1
    go_wp2_with fail
    refine c1.mono ?_
    clear c1
    rintro e w3 ⟨rfl, hw3⟩
    have Hw3 := Lib.hid (HB2.out.trans (hw3.mono HB2.out.size))
    obtain ⟨b0, b1, b2, b3⟩ := B0.out.below Hw3.out
    clear hw3 y10 y11 y12 y13
    cases t1
    · have HR3 : Hid (R = false) := by
        show R = false
        rw [HR2.out]
        simp
      clear HR2
      go_wp2_with fail
      go_ret
      exact ⟨by rw [HR3.out]; rfl, tr HA.out Hw3.out⟩
    · have HR3 : Hid (R = t0) := by
        show R = t0
        rw [HR2.out]
        simp
      clear HR2
      obtain ⟨k0, nm0, z0, kk0, cc0, p0, e0, y00, y01, y02, y03, hk0⟩ := ((HAT0.out w3 Hw3.out)).val
      have c0 := (HKN0.out).2.1 (.agg #[.int .i64 k0, .string ⟨nm0.toArray⟩, .slice z0 kk0.length cc0, .int .i64 p0]) w3 Hw3.out (by rw [e0]; exact ⟨z0, cc0, rfl, hk0⟩)
      simp only [List.append_toArray, List.cons_append, List.nil_append] at c0
      rw [HT0.out] at c0
      clear hk0 e0
      go_wp2_with fail
      refine c0.mono ?_
      clear c0
      rintro e w4 ⟨rfl, hw4⟩
      have Hw4 := Lib.hid (Hw3.out.trans (hw4.mono Hw3.out.size))
      obtain ⟨b0, b1, b2, b3⟩ := B0.out.below Hw4.out
      clear hw4 y00 y01 y02 y03
      go_wp2_with fail
      go_ret
      exact ⟨by rw [HR3.out]; rfl, tr HA.out Hw4.out⟩
end
end Go.Proofs.YtpbkeamjdolpgaaGreatDoor
namespace Go.Proofs.YtpbkeamjdolpgaaGreatDoor
open Go.RowKit Go.Lib Go.Shelf Go.Sort

set_option maxHeartbeats 4000000 in
set_option maxRecDepth 100000 in
theorem twin_any (ok : Nat → Prop) : ∀ (N : Nat) (l : List Nd), szL l < N → szL l < 2 ^ 40 → ∀ (y : Option Addr) (c : Nat) (w : World), NdRow w ok l y →
    Calls Tryz.prog 19 #[.slice y l.length c] w fun e w' => ∃ v, e = .returned v ∧ RowOwn w' w.heap.size v l ∧ Below w.heap.size w w'
  | 0, _, h, _, _, _, _, _ => by omega
  | N + 1, l, hN, hw, y, c, w, hrow => by
    have ih := twin_any ok N
    have hl := len_szL l
    have HROW := Lib.hid hrow
    have HIH := Lib.hid ih
    have HSZ := Lib.hid hN
    have HW := Lib.hid hw
    obtain ⟨n, hn⟩ : ∃ n, l.length = n := ⟨_, rfl⟩
    have HN := Lib.hid hn
    have hnn : n < 2 ^ 40 := by omega
    obtain ⟨i0, hi0, hz0, hz1, hz2⟩ := info_parts Tryz.infoNode
    rw [hn]
    clear hrow ih hN hw hl hn
    go_enter Tryz.func19, Tryz.ntmps19
    go_wp2_with fail
    go_loopw [3, 8] (fun v j wx => ∃ i : Nat, j = .int .i64 i ∧ i ≤ n ∧ Below w.heap.size w wx ∧ RowOwn wx w.heap.size v (l.take i)) (fun _ j _ => n - (RowKit.intOf j).toNat)
    case atStart => exact ⟨0, rfl, Nat.zero_le _, Below.refl _ _, RowOwn.nil _ _⟩
    case round =>
      obtain ⟨i, rfl, hi, hb, hown⟩ := hrel
      by_cases hlt : i < n
      · obtain ⟨x, hx⟩ : ∃ u, l[i]? = some u := ⟨l[i]'(by have := HN.out; omega), List.getElem?_eq_getElem _⟩
        obtain ⟨B, o, rfl, hat⟩ := (HROW.out.below hb).at_ hx
        obtain ⟨k, nm, z, kids, cc, p, rfl, x0, x1, x2, x3, hk⟩ := hat.val
        have hks := kids_lt hx
        have HT : Hid (l.take (i + 1) = l.take i ++ [.mk k nm kids p]) := by
          show _ = _
          rw [List.take_add_one, hx]
          rfl
        have hA : Below wr.heap.size wr (wr.alloc (.cells #[.int .i64 k, .string ⟨nm.toArray⟩, .slice z kids.length cc, .int .i64 p] 53)) := (Below.refl _ _).alloc (Nat.le_refl _) _
        have c1 := HIH.out kids (by have := HSZ.out; omega) (by have := HW.out; omega) z cc _ (hk.below hA)
        have hbox := (Box4.new wr (.int .i64 k) (.string ⟨nm.toArray⟩) (.slice z kids.length cc) (.int .i64 p))
        have HBX := Lib.hid hbox
        have HA := Lib.hid hA
        have HOWN := Lib.hid hown
        have hlen : (l.take i).length = i := by rw [List.length_take]; have := HN.out; omega
        have HLEN := Lib.hid hlen
        obtain ⟨va, vc, hva, _, _⟩ := hown.shape
        rw [hlen] at hva
        subst hva
        have hlt' : (i : Int) < (n : Int) := by omega
        have Qi : IntKind.i64.wrap ((i : Int) + 1) = (i : Int) + 1 := IntWalk.i64_in _ (by omega)
        have HBsz := hb.size
        clear hx hat hk hA hbox hown hlen hks
        go_wp2_with fail
        refine c1.mono ?_
        clear c1
        rintro e w2 ⟨v1, rfl, hrow1, hb2⟩
        obtain ⟨y1, c1, rfl, hc1, hnd⟩ := hrow1.shape
        have hbx := Box4.below HBX.out hb2
        obtain ⟨b0, b1, b2, b3, b4⟩ := hbx.facts
        have hb3 : Below wr.heap.size wr (w2.setCell ⟨wr.heap.size, 2, none⟩ (.slice y1 kids.length c1)) := (tr HA.out hb2).setCell (p := ⟨wr.heap.size, 2, none⟩) (Nat.le_refl _) _
        have HB3 := Lib.hid hb3
        have HB2 := Lib.hid hb2
        have HND := Lib.hid hnd
        have hsz2 : wr.heap.size < w2.heap.size := by have := hb2.size; simp at this; omega
        clear hb2 hb3 hrow1 hnd
        go_wp2_with (at_builtin; obtain ⟨xs, hown5, hfl5⟩ := HOWN.out.below HB3.out; rw [HLEN.out] at hown5; refine wpList_append_fresh _ rfl (.tmp 16) (.tmp 18) 22 rfl (w.heap.size) 53 i0 (.agg #[.int .i64 0, .string ⟨#[]⟩, .slice none 0 0, .int .i64 0]) 4 56 Tryz.underlying22 hi0 hz0 hz1 hz2 rfl (by decide) _ _ _ rfl (hown5.alloc _) ⟨w2.heap.size, 0, none⟩ 1 1 [.int .i64 k, .string ⟨nm.toArray⟩, .slice y1 kids.length c1, .int .i64 p] rfl rfl (by simpa using cell_four_new (w2.setCell ⟨wr.heap.size, 2, none⟩ (.slice y1 kids.length c1)) _ _ _ _ _) (fun x hx => by simp at hx; rcases hx with rfl | rfl | rfl | rfl <;> rfl) (by unfold maxLen; omega) (by omega) (by simp; omega) ?_; intro v' w6 hown' hgrow hfresh)
        have hlt5 := fun j hj => ((hown5.alloc (.cells #[.int .i64 k, .string ⟨nm.toArray⟩, .slice y1 kids.length c1, .int .i64 p] 53)).lt j hj).1
        have hb6 : Below w.heap.size w w6 := Below.grown ((tr hb HB3.out).alloc (by have := HB3.out.size; omega) _) hgrow (by have := HB3.out.size; simp at this ⊢; omega) hlt5
        go_roundw
        case rel =>
          refine ⟨i + 1, by go_num, by omega, hb6, ?_⟩
          rw [HT.out]
          refine RowOwn.snoc (a := [.int .i64 k, .string ⟨nm.toArray⟩, .slice y1 kids.length c1, .int .i64 p]) (NFlat.mono (fun b h1 _ => h1) (fun b _ h2 => Below.heap_alloc _ _ b h2) hfl5) ⟨y1, c1, rfl, ?_⟩ (by rw [HLEN.out]; exact hown') hgrow hfresh
          have h7 : NdRow (w2.setCell ⟨wr.heap.size, 2, none⟩ (.slice y1 kids.length c1)) (fun k => wr.heap.size + 1 ≤ k) kids y1 := NdRow.mono (fun b h1 _ => by simpa using h1) (fun b h1 _ => Below.heap_setCell w2 _ _ _ (show b ≠ wr.heap.size by have h1' : (wr.alloc _).heap.size ≤ b := h1; simp at h1'; omega)) _ _ HND.out
          refine NdRow.mono (fun b h1 h2 => ⟨by omega, fun e => ?_⟩) (fun b _ h2 => Below.heap_alloc _ _ b h2) _ _ h7
          obtain ⟨xs3, hown3, _⟩ := HOWN.out
          have := (hown3.lt b e.symm).2
          omega
        case measure => simp [RowKit.intOf]; omega
      · obtain rfl : i = n := by omega
        rw [List.take_of_length_le (by have := HN.out; omega)] at hown
        have hlt' : ¬ (i : Int) < (i : Int) := by omega
        have HOWN := Lib.hid hown
        clear hown
        go_wp2_with fail
        go_ret
        exact ⟨_, rfl, HOWN.out, hb⟩

set_option maxHeartbeats 4000000 in
set_option maxRecDepth 100000 in
/-- A tree is the same as itself, places and all, wherever it lies. -/
theorem same27_any (ok : Nat → Prop) : ∀ (N : Nat) (l : List Nd), szL l < N → szL l < 2 ^ 40 → ∀ (y y' : Option Addr) (c c' : Nat) (w : World), NdRow w ok l y → NdRow w ok l y' →
    Calls Tryz.prog 24 #[.slice y l.length c, .slice y' l.length c'] w (Yes true w)
  | 0, _, h, _, _, _, _, _, _, _, _ => by omega
  | N + 1, l, hN, hw, y, y', c, c', w, hrow, hrow' => by
    have ih := same27_any ok N
    have hl := len_szL l
    have HROW := Lib.hid hrow
    have HROW' := Lib.hid hrow'
    have HIH := Lib.hid ih
    have HSZ := Lib.hid hN
    have HW := Lib.hid hw
    obtain ⟨n, hn⟩ : ∃ n, l.length = n := ⟨_, rfl⟩
    have HN := Lib.hid hn
    have hnn : n < 2 ^ 40 := by omega
    rw [hn]
    clear hrow hrow' ih hN hw hl hn
    go_enter Tryz.func24, Tryz.ntmps24
    go_wp2_with fail
    go_loopw [13] (fun j wx => ∃ i : Nat, j = .int .i64 i ∧ i ≤ n ∧ Below w.heap.size w wx) (fun j _ => n - (RowKit.intOf j).toNat)
    case atStart => exact ⟨0, rfl, Nat.zero_le _, Below.refl _ _⟩
    case round =>
      obtain ⟨i, rfl, hi, hb⟩ := hrel
      by_cases hlt : i < n
      · obtain ⟨x, hx⟩ : ∃ u, l[i]? = some u := ⟨l[i]'(by have := HN.out; omega), List.getElem?_eq_getElem _⟩
        obtain ⟨B, o, rfl, hat⟩ := (HROW.out.below hb).at_ hx
        obtain ⟨B', o', rfl, hat'⟩ := (HROW'.out.below hb).at_ hx
        obtain ⟨k, nm, m, p⟩ := x
        obtain ⟨hok, x0, x1, x3, ya, ca, x2, hk⟩ := hat
        obtain ⟨hok', x0', x1', x3', ya', ca', x2', hk'⟩ := hat'
        have hks := kids_lt hx
        have cE := fun d os => Calls.regrown_of (HIH.out m (by have := HSZ.out; omega) (by have := HW.out; omega) ya ya' ca ca' _ (hk.below (below_regrown wr d os)) (hk'.below (below_regrown wr d os)))
        have hlt' : (i : Int) < (n : Int) := by omega
        have Qi1 : IntKind.i64.wrap ((i : Int) + 1) = (i : Int) + 1 := IntWalk.i64_in _ (by omega)
        have Qk : (k != k) = false := by simp
        have Qp : (p != p) = false := by simp
        have Qn : (nm != nm) = false := by simp
        have q0 := cell_regrown x0
        have q1 := cell_regrown x1
        have q2 := cell_regrown x2
        have q3 := cell_regrown x3
        have q0' := cell_regrown x0'
        have q1' := cell_regrown x1'
        have q2' := cell_regrown x2'
        have q3' := cell_regrown x3'
        clear hx hk hk' hok hok' hks
        go_wp2_with fail
        refine wp_region_quiet_below (by kernel_rfl) (by kernel_rfl) ?_
        repeat (go_big_quiet_step (exact cE _ _))
        refine wpQuiet_nil ?_
        intro _ hw'
        obtain ⟨⟨dq, osq⟩, hw''⟩ := hw'
        subst hw''
        have hb2 := below_regrown wr dq osq
        generalize grow (redrawn wr dq) osq = w2 at *
        clear q0 q1 q2 q3 q0' q1' q2' q3' cE
        go_wp2_with fail
        go_roundw
        case rel => exact ⟨i + 1, by go_num, by omega, tr hb hb2⟩
        case measure => simp [RowKit.intOf]; omega
      · have hlt' : ¬ (i : Int) < (n : Int) := by omega
        go_wp2_with fail
        go_ret
        exact ⟨rfl, hb⟩

theorem ret_node_b {R : Ending → World → Prop} {fn : Func} {p q : Tmp} (hr : fn.results = #[.cell p 53, .tmp q]) {a : Act} {w : World} {g : Nat} {v0 v1 v2 v3 v : Value} (hp : a.tmps.getD p undef = .pointer (some ⟨g, 0, none⟩)) (hq : a.tmps.getD q undef = v) (hd : a.defers = [])
    (c0 : w.cell? ⟨g, 0, none⟩ = some v0) (c1 : w.cell? ⟨g, 1, none⟩ = some v1) (c2 : w.cell? ⟨g, 2, none⟩ = some v2) (c3 : w.cell? ⟨g, 3, none⟩ = some v3) (h : R (.returned (.tuple #[.agg #[v0, v1, v2, v3], v])) w) : bodyPost Tryz.prog fn R .ret a w := by
  have hp' : a.tmps[p]?.getD undef = .pointer (some ⟨g, 0, none⟩) := by simpa using hp
  have hq' : a.tmps[q]?.getD undef = v := by simpa using hq
  exact bodyPost_ret (v := .tuple #[.agg #[v0, v1, v2, v3], v]) (by simp [results, hr, hp', hq', go_sem, c0, c1, c2, c3]) hd h
theorem set4_other {w : World} {b q : Nat} {u0 u1 u2 u3 : Value} (h : q ≠ b) : ((((w.setCell ⟨b, 0, none⟩ u0).setCell ⟨b, 1, none⟩ u1).setCell ⟨b, 2, none⟩ u2).setCell ⟨b, 3, none⟩ u3).heap[q]? = w.heap[q]? := by
  rw [Below.heap_setCell _ _ _ _ h, Below.heap_setCell _ _ _ _ h, Below.heap_setCell _ _ _ _ h, Below.heap_setCell _ _ _ _ h]
theorem set4_below {a w : World} {B b : Nat} {u0 u1 u2 u3 : Value} (h : Below B a w) (hb : B ≤ b) : Below B a ((((w.setCell ⟨b, 0, none⟩ u0).setCell ⟨b, 1, none⟩ u1).setCell ⟨b, 2, none⟩ u2).setCell ⟨b, 3, none⟩ u3) :=
  (((h.setCell (p := ⟨b, 0, none⟩) hb _).setCell (p := ⟨b, 1, none⟩) hb _).setCell (p := ⟨b, 2, none⟩) hb _).setCell (p := ⟨b, 3, none⟩) hb _
/-- What the reference's deep hands back. -/
def RDeepEnd (ok : Nat → Prop) (R : Option Nd) (w : World) (e : Ending) (w' : World) : Prop :=
  Below w.heap.size w w' ∧ ((R = none ∧ e = .returned (.tuple #[.agg #[.int .i64 0, .string ⟨#[]⟩, .slice none 0 0, .int .i64 0], .bool false])) ∨ ∃ x v, R = some x ∧ e = .returned (.tuple #[v, .bool true]) ∧ NdVal w' ok x v)
set_option maxHeartbeats 4000000 in
set_option maxRecDepth 100000 in
theorem rdeep_any (b0 : Nat) : ∀ (N : Nat) (l : List Nd), szL l < N → szL l < 2 ^ 40 → ∀ (d : Nat), d ≤ 65 → ∀ (y : Option Addr) (c : Nat) (w : World), b0 ≤ w.heap.size → NdRow w (fun k => k < b0) l y →
    Calls Tryz.prog 46 #[.slice y l.length c, .int .i64 d] w (RDeepEnd (fun k => k < b0) (deepL l d) w)
  | 0, _, h, _, _, _, _, _, _, _, _ => by omega
  | N + 1, l, hN, hw, d, hd, y, c, w, hb0, hrow => by
    have ih := rdeep_any b0 N
    have hl := len_szL l
    obtain ⟨R, hR⟩ : ∃ R, deepL l d = R := ⟨_, rfl⟩
    rw [hR]
    obtain ⟨n, hn⟩ : ∃ n, l.length = n := ⟨_, rfl⟩
    have HN := Lib.hid hn
    have HR := Lib.hid hR
    have HROW := Lib.hid hrow
    have HSZ := Lib.hid hN
    have HW := Lib.hid hw
    have HIH := Lib.hid ih
    have HB0 := Lib.hid hb0
    have hnn : n < 2 ^ 40 := by omega
    rw [hn]
    have Qd1 : IntKind.i64.wrap ((d : Int) + 1) = (d : Int) + 1 := IntWalk.i64_in _ (by omega)
    clear hN hw hrow hR hn ih hl hb0
    go_enter Tryz.func46, Tryz.ntmps46
    go_wp2_with fail
    have hA : Below w.heap.size w (w.alloc (.cells #[.int .i64 0, .string ⟨#[]⟩, .slice none 0 0, .int .i64 0] 53)) := (Below.refl _ _).alloc (Nat.le_refl _) _
    have HBX := Lib.hid (Box4.new w (.int .i64 0) (.string ⟨#[]⟩) (.slice none 0 0) (.int .i64 0))
    have HA := Lib.hid hA
    clear hA
    generalize hbx : w.heap.size = bx at *
    go_loopg [6] n (fun gf v wx => ∃ i : Nat, v = .int .i64 i ∧ i + gf = n ∧ Below bx w wx ∧ Box4 wx bx (.int .i64 0) (.string ⟨#[]⟩) (.slice none 0 0) (.int .i64 0) ∧ Hid (deepL (l.drop i) d = R))
    case atStart => exact ⟨0, rfl, by omega, HA.out, HBX.out, HR⟩
    case round =>
      obtain ⟨i, rfl, hi, hb, hbox, hS⟩ := hrel
      obtain ⟨e0, e1, e2, e3, ef⟩ := hbox.facts
      have hbs : bx < wr.heap.size := World.block_lt_of_cell? wr _ e0
      have hRW : ∀ W, Below bx w W → NdRow W (fun k => k < b0) l y := fun W h => HROW.out.below (hbx.symm ▸ h)
      by_cases hlt : i < n
      · obtain ⟨x, hx⟩ : ∃ x, l[i]? = some x := ⟨l[i]'(by have := HN.out; omega), List.getElem?_eq_getElem _⟩
        have hS2 := hS.out
        rw [deepL_drop hx] at hS2
        obtain ⟨B, o, rfl, hat⟩ := (hRW wr hb).at_ hx
        obtain ⟨k, nm, kids, p⟩ := x
        have HAT : Hid (∀ W, Below bx w W → ∃ c', W.cell? ⟨B, o + i * 4 + 2, none⟩ = some c' ∧ ∃ y' cc, c' = .slice y' kids.length cc ∧ NdRow W (fun k => k < b0) kids y') := fun W h => by
          obtain ⟨B', o', h1, h2⟩ := (hRW W h).at_ hx
          cases h1
          obtain ⟨_, _, _, _, y', cc, h3, h4⟩ := h2
          exact ⟨_, h3, y', cc, rfl, h4⟩
        obtain ⟨hok, x0, x1, x3, y', c', x2, hk⟩ := hat
        have hks := kids_lt hx
        have hlt' : (i : Int) < (n : Int) := by omega
        have Qi1 : IntKind.i64.wrap ((i : Int) + 1) = (i : Int) + 1 := IntWalk.i64_in _ (by omega)
        by_cases hd64 : 64 < d
        · have hd' : (64 : Int) < (d : Int) := by omega
          have HS : Hid (R = some (.mk k nm kids p)) := by
            show R = _
            rw [← hS2, if_pos hd64]
          have HX2 := Lib.hid x2
          have HKD := Lib.hid hk
          clear hS hS2 hx hks hRW hok hk
          go_wp2_with fail
          have hF := (hbox.set4 (u0 := .int .i64 k) (u1 := .string ⟨nm.toArray⟩) (u2 := .slice y' kids.length c') (u3 := .int .i64 p)).facts
          exact ret_node_b rfl rfl rfl rfl hF.1 hF.2.1 hF.2.2.1 hF.2.2.2.1 ⟨by rw [hbx]; exact set4_below hb (Nat.le_refl _), .inr ⟨_, _, HS.out, rfl, y', c', rfl, NdRow.mono (fun _ h _ => h) (fun q hq _ => set4_other (by have := HB0.out; omega)) _ _ HKD.out⟩⟩
        · have hd' : ¬ (64 : Int) < (d : Int) := by omega
          have c2 : Calls Tryz.prog 46 #[.slice y' kids.length c', .int .i64 ((d : Int) + 1)] wr (RDeepEnd (fun k => k < b0) (deepL kids (d + 1)) wr) := HIH.out kids (by have := HSZ.out; omega) (by have := HW.out; omega) (d + 1) (by omega) y' c' wr (by have := HB0.out; omega) hk
          have HS : Hid (R = match deepL kids (d + 1) with
            | some y => some y
            | none => deepL (l.drop (i + 1)) d) := by
            show R = _
            rw [← hS2, if_neg hd64]
            rfl
          have HBOX := Lib.hid hbox
          have HBW := Lib.hid hb
          clear hS hS2 hx hks hRW hok hk hbox HAT e0 e1 e2 e3 ef
          go_wp2_with fail
          refine c2.mono ?_
          clear c2
          rintro e w2 ⟨hb2, ⟨hr, rfl⟩ | ⟨x', v, hr, rfl, hv⟩⟩
          · have HS4 : Hid (deepL (l.drop (i + 1)) d = R) := by
              have := HS.out
              rw [hr] at this
              exact this.symm
            have HBX2 := Lib.hid ((HBOX.out.below hb2).alloc (.cells #[.int .i64 0, .string ⟨#[]⟩, .slice none 0 0, .int .i64 0] 53))
            have HB2 := Lib.hid ((HBW.out.trans (hb2.mono (by omega))).alloc (by have := hb2.size; omega) (.cells #[.int .i64 0, .string ⟨#[]⟩, .slice none 0 0, .int .i64 0] 53))
            clear hr hb2 HS
            go_wp2_with fail
            go_roundg (gk - 1)
            case measure => omega
            case rel => exact ⟨i + 1, rfl, by omega, HB2.out, HBX2.out, HS4⟩
          · obtain ⟨k', nm', m', p'⟩ := x'
            obtain ⟨y2, c2, rfl, hrow2⟩ := hv
            have HS4 : Hid (R = some (.mk k' nm' m' p')) := by
              have := HS.out
              rw [hr] at this
              exact this
            have HBX2 := Lib.hid ((HBOX.out.below hb2).alloc (.cells #[.int .i64 k', .string ⟨nm'.toArray⟩, .slice y2 m'.length c2, .int .i64 p'] 53))
            have HB2 := Lib.hid ((HBW.out.trans (hb2.mono (by omega))).alloc (by have := hb2.size; omega) (.cells #[.int .i64 k', .string ⟨nm'.toArray⟩, .slice y2 m'.length c2, .int .i64 p'] 53))
            have HR2 := Lib.hid (hrow2.below ((Below.refl _ _).alloc (Nat.le_refl _) (.cells #[.int .i64 k', .string ⟨nm'.toArray⟩, .slice y2 m'.length c2, .int .i64 p'] 53)))
            obtain ⟨d0, d1, d2, d3, df⟩ := HBX2.out.facts
            clear hr hb2 HS hrow2
            go_wp2_with fail
            have hF := (HBX2.out.set4 (u0 := .int .i64 k') (u1 := .string ⟨nm'.toArray⟩) (u2 := .slice y2 m'.length c2) (u3 := .int .i64 p')).facts
            exact ret_node_b rfl rfl rfl rfl hF.1 hF.2.1 hF.2.2.1 hF.2.2.2.1 ⟨by rw [hbx]; exact set4_below HB2.out (Nat.le_refl _), .inr ⟨_, _, HS4.out, rfl, y2, c2, rfl, NdRow.mono (fun _ h _ => h) (fun q hq _ => set4_other (by have := HB0.out; omega)) _ _ HR2.out⟩⟩
      · have hS2 := hS.out
        rw [List.drop_of_length_le (by have := HN.out; omega)] at hS2
        have HS : Hid (R = none) := hS2.symm
        have hlt' : ¬ (i : Int) < (n : Int) := by omega
        clear hS hS2 hRW
        go_wp2_with fail
        have hF := (hbox.set4 (u0 := .int .i64 0) (u1 := .string ⟨#[]⟩) (u2 := .slice none 0 0) (u3 := .int .i64 0)).facts
        exact ret_node_b rfl rfl rfl rfl hF.1 hF.2.1 hF.2.2.1 hF.2.2.2.1 ⟨by rw [hbx]; exact set4_below hb (Nat.le_refl _), .inl ⟨HS.out, rfl⟩⟩
end Go.Proofs.YtpbkeamjdolpgaaGreatDoor
namespace Go.Proofs.YtpbkeamjdolpgaaGreatDoor
open Go.RowKit Go.Lib Go.Shelf Go.Sort

/-- What the reference tells of a node, whatever it is. -/
theorem rstmt_ck (ok : Nat → Prop) (w0 : World) (hG : Gl w0) : ∀ (N : Nat) (x : Nd), wtN x < N → wtN x < 2 ^ 40 → KnR ok w0 x ∧ OneQ 101 [] ok stR w0 x
  | 0, _, h, _ => by omega
  | N + 1, .mk k n kids p, hN, hw => by
    have ih := fun x (hx : x ∈ kids) => rstmt_ck ok w0 hG N x (by have := kid_wt (k := k) (n := n) (p := p) hx; omega) (by have := kid_wt (k := k) (n := n) (p := p) hx; omega)
    have hE := rnode_ck ok w0 hG (wtN (.mk k n kids p) + 1) (.mk k n kids p) (Nat.lt_succ_self _) hw
    have hw2 := hw
    rw [wtN_mk] at hw2
    have hlen := len_wtL kids
    have hw' : wtL kids + n.length < 2 ^ 40 := by omega
    have hn : n.length < 2 ^ 40 := by omega
    have hK : ∀ x ∈ kids, KnR ok w0 x := fun x hx => (ih x hx).1
    refine ⟨⟨by rw [tst_ex]; exact hE.1, by rw [tst_arg]; exact hE.2, rpars_any27 ok w0 n kids p hw' hG k, rbody_any27 ok w0 k n kids p hw' fun x hx => (ih x hx).2⟩, ?_⟩
    by_cases h6 : k = 6
    · subst h6
      by_cases hno : n ≠ [] ∨ kids.length < 2 ∨ 3 < kids.length
      · exact rst6_no ok w0 n kids p hw' hK hno
      · have hn0 : n = [] := by
          by_cases h : n = []
          · exact h
          · exact absurd (.inl h) hno
        subst hn0
        by_cases h2 : kids.length = 2
        · obtain ⟨x0, x1, rfl⟩ := len_two h2
          exact rst6_two ok w0 p x0 x1 hK
        · have h3 : kids.length = 3 := by
            have h4 : ¬ kids.length < 2 := fun h => hno (.inr (.inl h))
            have h5 : ¬ 3 < kids.length := fun h => hno (.inr (.inr h))
            omega
          obtain ⟨x0, x1, x2, rfl⟩ := len_three h3
          exact rst6_three ok w0 p x0 x1 x2 hK
    cases hP : plainR n
    · exact rstno_any ok w0 n kids p hw' hG k h6 hP
    by_cases h1 : k = 1
    · subst h1; exact rst1_any ok w0 n kids p hw' hG hK
    by_cases h2 : k = 2
    · subst h2; exact rst2_any ok w0 n kids p hw' hG hK
    by_cases h3 : k = 3
    · subst h3; exact rst3_any ok w0 n kids p hw' hG hK
    by_cases h5 : k = 5
    · subst h5; exact rst5_any ok w0 n kids p hw' hG hK
    by_cases h7 : k = 7
    · subst h7
      by_cases hno : kids.length < 1 ∨ 2 < kids.length
      · exact rst7_no ok w0 n kids p hw' hG hno
      · by_cases hl : kids.length = 1
        · obtain ⟨x0, rfl⟩ := List.length_eq_one_iff.1 hl
          exact rst7_one ok w0 n p hG x0 hK hn
        · have hl2 : kids.length = 2 := by omega
          obtain ⟨x0, x1, rfl⟩ := len_two hl2
          exact rst7_two ok w0 n p hG x0 x1 hK hn
    exact rstk_any ok w0 n kids p hw' hG k h6 (by omega) h5 h7 hP
set_option maxHeartbeats 4000000 in
set_option maxRecDepth 100000 in
theorem rcheck_any (ok : Nat → Prop) (l : List Nd) (hw : wtL l < 2 ^ 40) (y : Option Addr) (c : Nat) (w : World) (hG : Gl w) (hrow : NdRow w ok l y) :
    Calls Tryz.prog 23 #[.slice y l.length c] w fun e w' => e = .returned (.int .i64 (checkR l)) ∧ Below w.heap.size w w' := by
  have hlen := len_wtL l
  have hsz := sz_wtL l
  have c0 := rdeep_any w.heap.size (szL l + 1) l (Nat.lt_succ_self _) (by omega) 1 (by omega) y c w (Nat.le_refl _) (hrow.wide fun _ _ h => h)
  have C1 : Hid (∀ W, Below w.heap.size w W → Calls Tryz.prog 56 #[.slice y l.length c] W (Yes (stsR l) W)) := fun W hb =>
    rsts_any27 ok l l.length rfl (by omega) y c W (hrow.below hb) fun x hx => ((rstmt_ck ok w hG (wtN x + 1) x (Nat.lt_succ_self _) (by have := wtL_mem hx; omega)).2).below hb
  have hC : checkR l = match deepL l 1 with | some _ => 3 | none => if stsR l then 0 else 290 := rfl
  obtain ⟨R, hR⟩ : ∃ R, checkR l = R := ⟨_, rfl⟩
  obtain ⟨D, hD⟩ : ∃ D, deepL l 1 = D := ⟨_, rfl⟩
  obtain ⟨B, hB⟩ : ∃ B, stsR l = B := ⟨_, rfl⟩
  obtain ⟨n, hn⟩ : ∃ n, l.length = n := ⟨_, rfl⟩
  rw [hR, hD, hB] at hC
  rw [hD, hn] at c0
  rw [hB, hn] at C1
  rw [hR, hn]
  have HC := Lib.hid hC
  clear hR hD hB hn hC hw hrow hlen hsz hG
  go_enter Tryz.func23, Tryz.ntmps23
  go_wp2_with fail
  refine c0.mono ?_
  clear c0
  rintro e w1 ⟨hb1, ⟨rfl, rfl⟩ | ⟨x, v, rfl, rfl, hv⟩⟩
  · have hbA := hb1.alloc (o := .cells #[.int .i64 0, .string ⟨#[]⟩, .slice none 0 0, .int .i64 0] 53) hb1.size
    have c1 := C1.out _ hbA
    have HBA := Lib.hid hbA
    clear hb1 hbA C1
    cases B
    · have HR : Hid (R = 290) := HC.out
      clear HC
      go_wp2_with fail
      refine c1.mono ?_
      clear c1
      rintro e w2 ⟨rfl, hb2⟩
      go_wp2_with fail
      go_ret
      exact ⟨by rw [HR.out]; rfl, tr HBA.out hb2⟩
    · have HR : Hid (R = 0) := HC.out
      clear HC
      go_wp2_with fail
      refine c1.mono ?_
      clear c1
      rintro e w2 ⟨rfl, hb2⟩
      go_wp2_with fail
      go_ret
      exact ⟨by rw [HR.out]; rfl, tr HBA.out hb2⟩
  · obtain ⟨k, nm, m, p⟩ := x
    obtain ⟨y2, c2, rfl, hrow2⟩ := hv
    have HR : Hid (R = 3) := HC.out
    have hbA := hb1.alloc (o := .cells #[.int .i64 k, .string ⟨nm.toArray⟩, .slice y2 m.length c2, .int .i64 p] 53) hb1.size
    have HBA := Lib.hid hbA
    clear HC hrow2 hb1 hbA C1
    go_wp2_with fail
    go_ret
    exact ⟨by rw [HR.out]; rfl, HBA.out⟩
end Go.Proofs.YtpbkeamjdolpgaaGreatDoor
