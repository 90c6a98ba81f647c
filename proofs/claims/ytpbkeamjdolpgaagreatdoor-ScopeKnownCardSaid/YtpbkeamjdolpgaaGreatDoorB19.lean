/- The walks of tree.statement, tree.Check. The walks of tree.tight; what the printer's functions do. errors.As at a target of *api.Fault, by its contracts: of nil, and of a *api.Fault. After the kit's worked example ToyasAs. errors.Is of a fault and its code. -/
import Derived.Test.YtpbkeamjdolpgaaGreatDoorB09
import Derived.Test.YtpbkeamjdolpgaaGreatDoorB18
import Derived.Test.YtpbkeamjdolpgaaGreatDoorB02
import Derived.Test.YtpbkeamjdolpgaaGreatDoorB08
import Derived.Defers
import Derived.Lib.QuietBelow
import Derived.Test.YtpbkeamjdolpgaaGreatDoorB06
import Derived.LaidEql
import Derived.Stop.Asserts
import Derived.RowKitTokens
namespace Go.Proofs.YtpbkeamjdolpgaaGreatDoor
open Go.RowKit Go.Lib Go.Shelf Go.Sort

theorem kindsR_6 (l : List Nd) : kindsR true [-1, 0, 0] l = shR (if l.length = 2 then [-1, 0] else [-1, 0, 0]) l := by
  unfold kindsR
  by_cases h2 : l.length = 2
  · rw [if_pos h2, h2]; simp
  · rw [if_neg h2]
    by_cases h3 : l.length = 3
    · rw [h3]; simp
    · have : shR [-1, 0, 0] l = false := by
        cases hs : shR [-1, 0, 0] l
        · rfl
        · exact absurd (shR_len _ _ hs).symm h3
      rw [this]
      simp [h3]
      omega
theorem kindsR_7 (l : List Nd) : kindsR true [8, 0] l = shR (if l.length = 1 then [8] else [8, 0]) l := by
  unfold kindsR
  by_cases h2 : l.length = 1
  · rw [if_pos h2, h2]; simp
  · rw [if_neg h2]
    by_cases h3 : l.length = 2
    · rw [h3]; simp
    · have : shR [8, 0] l = false := by
        cases hs : shR [8, 0] l
        · rfl
        · exact absurd (shR_len _ _ hs).symm h3
      rw [this]
      simp [h3]
      omega
section
variable (ok : Nat → Prop) (w0 : World) (n : List UInt8) (kids : List Nd) (p : Int) (hw : wtL kids + n.length < 2 ^ 40) (hG : Gl w0) (h : KidsOk ok w0 kids)
set_option maxHeartbeats 4000000 in
set_option maxRecDepth 100000 in
include hw h in
theorem st6_any : OneQ 52 [] ok stR w0 (.mk 6 n kids p) := by
  intro v w1 hb hv
  obtain ⟨y, c, rfl, hrow⟩ := hv
  have hlen := len_wtL kids
  have hA : Below w1.heap.size w1 (w1.alloc (ndO 6 n y kids.length c p)) := (Below.refl _ _).alloc (Nat.le_refl _) _
  have hI : Below (w1.alloc (ndO 6 n y kids.length c p)).heap.size (w1.alloc (ndO 6 n y kids.length c p)) ((w1.alloc (ndO 6 n y kids.length c p)).alloc (.cells #[.int .i64 (-1), .int .i64 0, .int .i64 0] 3)) := (Below.refl _ _).alloc (Nat.le_refl _) _
  have c1 := kinds_all ok true [-1, 0, 0] 3 rfl (by omega) kids kids.length rfl (by omega) y c _ 3 _ ((hrow.below hA).below hI) (ints_three _ (-1) 0 0 3) (((h.below hb).below hA).below hI)
  rw [World.size_alloc] at c1
  have HA := Lib.hid (tr hA hI)
  have HA0 := Lib.hid hA
  have hE : stR (.mk 6 n kids p) = (n.isEmpty && kindsR true [-1, 0, 0] kids) := by
    rw [stR_eq, kindsR_6, if_pos rfl]
  rw [hE]
  show Calls _ _ _ _ (Yes _ w1)
  simp only [List.append_toArray, List.cons_append, List.nil_append]
  unfold ndO at c1
  obtain ⟨B1, hB1⟩ : ∃ B, kindsR true [-1, 0, 0] kids = B := ⟨_, rfl⟩
  rw [hB1] at c1 ⊢
  clear h hrow hB1 hb hA hI hlen hw hE
  by_cases hn : n = []
  · subst hn
    go_enter Tryz.func52, Tryz.ntmps52
    go_wp2_with fail
    refine c1.mono ?_
    clear c1
    rintro e w2 ⟨rfl, hb2⟩
    go_wp2_with fail
    go_ret
    exact ⟨by simp, tr HA.out hb2⟩
  · have e : n.isEmpty = false := by simpa using hn
    rw [e, Bool.false_and]
    have Q : (n == []) = false := beq_eq_false_iff_ne.2 hn
    clear c1
    go_enter Tryz.func52, Tryz.ntmps52
    go_wp2_with fail
    go_ret
    exact ⟨rfl, HA0.out⟩
set_option maxHeartbeats 4000000 in
set_option maxRecDepth 100000 in
include hw hG in
theorem stno_any (k : Int) (hk : k ≠ 6) (hP : plainR n = false) : OneQ 52 [] ok stR w0 (.mk k n kids p) := by
  intro v w1 hb hv
  obtain ⟨y, c, rfl, hrow⟩ := hv
  have hA : Below w1.heap.size w1 (w1.alloc (ndO k n y kids.length c p)) := (Below.refl _ _).alloc (Nat.le_refl _) _
  have c0 := plain_any n _ (by omega) ((hG.below hb).below hA)
  rw [hP] at c0
  have HA := Lib.hid hA
  have hE : stR (.mk k n kids p) = false := by
    rw [stR_eq, if_neg hk, hP, Bool.false_and]
  rw [hE]
  show Calls _ _ _ _ (Yes _ w1)
  simp only [List.append_toArray, List.cons_append, List.nil_append]
  unfold ndO at c0
  have Q : (k == 6) = false := beq_eq_false_iff_ne.2 hk
  clear hrow hb hA hw hE hG hP hk
  go_enter Tryz.func52, Tryz.ntmps52
  go_wp2_with fail
  refine c0.mono ?_
  clear c0
  rintro e w2 ⟨rfl, hb2⟩
  go_wp2_with fail
  go_ret
  exact ⟨rfl, tr HA.out hb2⟩
set_option maxHeartbeats 4000000 in
set_option maxRecDepth 100000 in
include hw hG in
theorem stk_any (k : Int) (hk6 : k ≠ 6) (hk : k < 1 ∨ 3 < k) (hk5 : k ≠ 5) (hk7 : k ≠ 7) (hP : plainR n = true) : OneQ 52 [] ok stR w0 (.mk k n kids p) := by
  intro v w1 hb hv
  obtain ⟨y, c, rfl, hrow⟩ := hv
  have hA : Below w1.heap.size w1 (w1.alloc (ndO k n y kids.length c p)) := (Below.refl _ _).alloc (Nat.le_refl _) _
  have c0 := plain_any n _ (by omega) ((hG.below hb).below hA)
  rw [hP] at c0
  have HA := Lib.hid hA
  have hE : stR (.mk k n kids p) = false := by
    rw [stR_eq, if_neg hk6, if_neg (by omega), if_neg (by omega), if_neg (by omega), if_neg hk5, if_neg hk7, Bool.and_false]
  rw [hE]
  show Calls _ _ _ _ (Yes _ w1)
  simp only [List.append_toArray, List.cons_append, List.nil_append]
  unfold ndO at c0
  have Q6 : (k == 6) = false := beq_eq_false_iff_ne.2 hk6
  have Q1 : (k == 1) = false := beq_eq_false_iff_ne.2 (by omega)
  have Q2 : (k == 2) = false := beq_eq_false_iff_ne.2 (by omega)
  have Q3 : (k == 3) = false := beq_eq_false_iff_ne.2 (by omega)
  have Q5 : (k == 5) = false := beq_eq_false_iff_ne.2 hk5
  have Q7 : (k == 7) = false := beq_eq_false_iff_ne.2 hk7
  have hz : ∀ o, w1.heap.size < (w1.alloc o).heap.size := fun o => by rw [World.size_alloc]; omega
  have hbx : (w1.alloc (.cells #[.int .i64 k, .string ⟨n.toArray⟩, .slice y kids.length c, .int .i64 p] 53)).cell? ⟨w1.heap.size, 0, none⟩ = some (.int .i64 k) := (Box4.new w1 _ _ _ _).facts.1
  have HBX := Lib.hid hbx
  clear hrow hb hA hw hE hG hP hk hk5 hk6 hk7 hbx
  go_enter Tryz.func52, Tryz.ntmps52
  go_wp2_with fail
  refine c0.mono ?_
  clear c0
  rintro e w2 ⟨rfl, hb2⟩
  have x0 := (hb2.cell (p := ⟨w1.heap.size, 0, none⟩) (hz _)).trans HBX.out
  go_wp2_with fail
  go_ret
  exact ⟨rfl, tr HA.out hb2⟩
set_option maxHeartbeats 4000000 in
set_option maxRecDepth 100000 in
include hw hG h in
theorem st1_any (hP : plainR n = true) : OneQ 52 [] ok stR w0 (.mk 1 n kids p) := by
  intro v w1 hb hv
  obtain ⟨y, c, rfl, hrow⟩ := hv
  have hlen := len_wtL kids
  have hA : Below w1.heap.size w1 (w1.alloc (ndO 1 n y kids.length c p)) := (Below.refl _ _).alloc (Nat.le_refl _) _
  have c0 := plain_any n _ (by omega) ((hG.below hb).below hA)
  rw [hP] at c0
  have C1 : Hid (∀ w2, Below (w1.alloc (ndO 1 n y kids.length c p)).heap.size (w1.alloc (ndO 1 n y kids.length c p)) w2 → Calls Tryz.prog 93 #[.slice y kids.length c, .bool false, .slice (some ⟨w2.heap.size, 0, none⟩) 1 1] (w2.alloc (.cells #[.int .i64 (-1)] 3)) (Yes (kindsR false [-1] kids) (w2.alloc (.cells #[.int .i64 (-1)] 3)))) := fun w2 hb2 =>
    kinds_all ok false [-1] 1 rfl (by omega) kids kids.length rfl (by omega) y c _ 1 _ (((hrow.below hA).below hb2).below ((Below.refl _ _).alloc (Nat.le_refl _) _)) (ints_one _ (-1) 3) ((((h.below hb).below hA).below hb2).below ((Below.refl _ _).alloc (Nat.le_refl _) _))
  have HA := Lib.hid hA
  have hE : stR (.mk 1 n kids p) = kindsR false [-1] kids := by
    rw [stR_eq, kindsR_false, hP]
    simp
  rw [hE]
  show Calls _ _ _ _ (Yes _ w1)
  simp only [List.append_toArray, List.cons_append, List.nil_append]
  unfold ndO at c0
  have hz : ∀ o, w1.heap.size < (w1.alloc o).heap.size := fun o => by rw [World.size_alloc]; omega
  have hf := (Box4.new w1 (.int .i64 1) (.string ⟨n.toArray⟩) (.slice y kids.length c) (.int .i64 p)).facts
  have HBX := Lib.hid hf
  obtain ⟨B1, hB1⟩ : ∃ B, kindsR false [-1] kids = B := ⟨_, rfl⟩
  rw [hB1] at C1 ⊢
  clear h hrow hb hA hw hE hG hP hlen hf hB1
  go_enter Tryz.func52, Tryz.ntmps52
  go_wp2_with fail
  refine c0.mono ?_
  clear c0
  rintro e w2 ⟨rfl, hb2⟩
  have x0 := (hb2.cell (p := ⟨w1.heap.size, 0, none⟩) (hz _)).trans HBX.out.1
  have x2 := (hb2.cell (p := ⟨w1.heap.size, 2, none⟩) (hz _)).trans HBX.out.2.2.1
  go_wp2_with fail
  refine (C1.out w2 hb2).mono ?_
  rintro e w3 ⟨rfl, hb3⟩
  go_wp2_with fail
  go_ret
  exact ⟨rfl, tr (tr HA.out hb2) (tr ((Below.refl _ _).alloc (Nat.le_refl _) _) hb3)⟩
set_option maxHeartbeats 4000000 in
set_option maxRecDepth 100000 in
include hw hG h in
theorem st2_any (hP : plainR n = true) : OneQ 52 [] ok stR w0 (.mk 2 n kids p) := by
  intro v w1 hb hv
  obtain ⟨y, c, rfl, hrow⟩ := hv
  have hlen := len_wtL kids
  have hA : Below w1.heap.size w1 (w1.alloc (ndO 2 n y kids.length c p)) := (Below.refl _ _).alloc (Nat.le_refl _) _
  have c0 := plain_any n _ (by omega) ((hG.below hb).below hA)
  rw [hP] at c0
  have C1 : Hid (∀ w2, Below (w1.alloc (ndO 2 n y kids.length c p)).heap.size (w1.alloc (ndO 2 n y kids.length c p)) w2 → Calls Tryz.prog 93 #[.slice y kids.length c, .bool false, .slice (some ⟨w2.heap.size, 0, none⟩) 2 2] (w2.alloc (.cells #[.int .i64 4, .int .i64 0] 3)) (Yes (kindsR false [4, 0] kids) (w2.alloc (.cells #[.int .i64 4, .int .i64 0] 3)))) := fun w2 hb2 =>
    kinds_all ok false [4, 0] 2 rfl (by omega) kids kids.length rfl (by omega) y c _ 2 _ (((hrow.below hA).below hb2).below ((Below.refl _ _).alloc (Nat.le_refl _) _)) (ints_two _ 4 0 3) ((((h.below hb).below hA).below hb2).below ((Below.refl _ _).alloc (Nat.le_refl _) _))
  have HA := Lib.hid hA
  have hE : stR (.mk 2 n kids p) = kindsR false [4, 0] kids := by
    rw [stR_eq, kindsR_false, hP]
    simp
  rw [hE]
  show Calls _ _ _ _ (Yes _ w1)
  simp only [List.append_toArray, List.cons_append, List.nil_append]
  unfold ndO at c0
  have hz : ∀ o, w1.heap.size < (w1.alloc o).heap.size := fun o => by rw [World.size_alloc]; omega
  have hf := (Box4.new w1 (.int .i64 2) (.string ⟨n.toArray⟩) (.slice y kids.length c) (.int .i64 p)).facts
  have HBX := Lib.hid hf
  obtain ⟨B1, hB1⟩ : ∃ B, kindsR false [4, 0] kids = B := ⟨_, rfl⟩
  rw [hB1] at C1 ⊢
  clear h hrow hb hA hw hE hG hP hlen hf hB1
  go_enter Tryz.func52, Tryz.ntmps52
  go_wp2_with fail
  refine c0.mono ?_
  clear c0
  rintro e w2 ⟨rfl, hb2⟩
  have x0 := (hb2.cell (p := ⟨w1.heap.size, 0, none⟩) (hz _)).trans HBX.out.1
  have x2 := (hb2.cell (p := ⟨w1.heap.size, 2, none⟩) (hz _)).trans HBX.out.2.2.1
  go_wp2_with fail
  refine (C1.out w2 hb2).mono ?_
  rintro e w3 ⟨rfl, hb3⟩
  go_wp2_with fail
  go_ret
  exact ⟨rfl, tr (tr HA.out hb2) (tr ((Below.refl _ _).alloc (Nat.le_refl _) _) hb3)⟩
set_option maxHeartbeats 4000000 in
set_option maxRecDepth 100000 in
include hw hG h in
theorem st3_any (hP : plainR n = true) : OneQ 52 [] ok stR w0 (.mk 3 n kids p) := by
  intro v w1 hb hv
  obtain ⟨y, c, rfl, hrow⟩ := hv
  have hlen := len_wtL kids
  have hA : Below w1.heap.size w1 (w1.alloc (ndO 3 n y kids.length c p)) := (Below.refl _ _).alloc (Nat.le_refl _) _
  have c0 := plain_any n _ (by omega) ((hG.below hb).below hA)
  rw [hP] at c0
  have C1 : Hid (∀ w2, Below (w1.alloc (ndO 3 n y kids.length c p)).heap.size (w1.alloc (ndO 3 n y kids.length c p)) w2 → Calls Tryz.prog 93 #[.slice y kids.length c, .bool false, .slice (some ⟨w2.heap.size, 0, none⟩) 2 2] (w2.alloc (.cells #[.int .i64 4, .int .i64 (-1)] 3)) (Yes (kindsR false [4, -1] kids) (w2.alloc (.cells #[.int .i64 4, .int .i64 (-1)] 3)))) := fun w2 hb2 =>
    kinds_all ok false [4, -1] 2 rfl (by omega) kids kids.length rfl (by omega) y c _ 2 _ (((hrow.below hA).below hb2).below ((Below.refl _ _).alloc (Nat.le_refl _) _)) (ints_two _ 4 (-1) 3) ((((h.below hb).below hA).below hb2).below ((Below.refl _ _).alloc (Nat.le_refl _) _))
  have HA := Lib.hid hA
  have hE : stR (.mk 3 n kids p) = kindsR false [4, -1] kids := by
    rw [stR_eq, kindsR_false, hP]
    simp
  rw [hE]
  show Calls _ _ _ _ (Yes _ w1)
  simp only [List.append_toArray, List.cons_append, List.nil_append]
  unfold ndO at c0
  have hz : ∀ o, w1.heap.size < (w1.alloc o).heap.size := fun o => by rw [World.size_alloc]; omega
  have hf := (Box4.new w1 (.int .i64 3) (.string ⟨n.toArray⟩) (.slice y kids.length c) (.int .i64 p)).facts
  have HBX := Lib.hid hf
  obtain ⟨B1, hB1⟩ : ∃ B, kindsR false [4, -1] kids = B := ⟨_, rfl⟩
  rw [hB1] at C1 ⊢
  clear h hrow hb hA hw hE hG hP hlen hf hB1
  go_enter Tryz.func52, Tryz.ntmps52
  go_wp2_with fail
  refine c0.mono ?_
  clear c0
  rintro e w2 ⟨rfl, hb2⟩
  have x0 := (hb2.cell (p := ⟨w1.heap.size, 0, none⟩) (hz _)).trans HBX.out.1
  have x2 := (hb2.cell (p := ⟨w1.heap.size, 2, none⟩) (hz _)).trans HBX.out.2.2.1
  go_wp2_with fail
  refine (C1.out w2 hb2).mono ?_
  rintro e w3 ⟨rfl, hb3⟩
  go_wp2_with fail
  go_ret
  exact ⟨rfl, tr (tr HA.out hb2) (tr ((Below.refl _ _).alloc (Nat.le_refl _) _) hb3)⟩
set_option maxHeartbeats 4000000 in
set_option maxRecDepth 100000 in
include hw hG h in
theorem st5_any (hP : plainR n = true) : OneQ 52 [] ok stR w0 (.mk 5 n kids p) := by
  intro v w1 hb hv
  obtain ⟨y, c, rfl, hrow⟩ := hv
  have hlen := len_wtL kids
  have hA : Below w1.heap.size w1 (w1.alloc (ndO 5 n y kids.length c p)) := (Below.refl _ _).alloc (Nat.le_refl _) _
  have c0 := plain_any n _ (by omega) ((hG.below hb).below hA)
  rw [hP] at c0
  have C1 : Hid (∀ w2, Below (w1.alloc (ndO 5 n y kids.length c p)).heap.size (w1.alloc (ndO 5 n y kids.length c p)) w2 → Calls Tryz.prog 93 #[.slice y kids.length c, .bool false, .slice (some ⟨w2.heap.size, 0, none⟩) 2 2] (w2.alloc (.cells #[.int .i64 (-1), .int .i64 0] 3)) (Yes (kindsR false [-1, 0] kids) (w2.alloc (.cells #[.int .i64 (-1), .int .i64 0] 3)))) := fun w2 hb2 =>
    kinds_all ok false [-1, 0] 2 rfl (by omega) kids kids.length rfl (by omega) y c _ 2 _ (((hrow.below hA).below hb2).below ((Below.refl _ _).alloc (Nat.le_refl _) _)) (ints_two _ (-1) 0 3) ((((h.below hb).below hA).below hb2).below ((Below.refl _ _).alloc (Nat.le_refl _) _))
  have HA := Lib.hid hA
  have hE : stR (.mk 5 n kids p) = kindsR false [-1, 0] kids := by
    rw [stR_eq, kindsR_false, hP]
    simp
  rw [hE]
  show Calls _ _ _ _ (Yes _ w1)
  simp only [List.append_toArray, List.cons_append, List.nil_append]
  unfold ndO at c0
  have hz : ∀ o, w1.heap.size < (w1.alloc o).heap.size := fun o => by rw [World.size_alloc]; omega
  have hf := (Box4.new w1 (.int .i64 5) (.string ⟨n.toArray⟩) (.slice y kids.length c) (.int .i64 p)).facts
  have HBX := Lib.hid hf
  obtain ⟨B1, hB1⟩ : ∃ B, kindsR false [-1, 0] kids = B := ⟨_, rfl⟩
  rw [hB1] at C1 ⊢
  clear h hrow hb hA hw hE hG hP hlen hf hB1
  go_enter Tryz.func52, Tryz.ntmps52
  go_wp2_with fail
  refine c0.mono ?_
  clear c0
  rintro e w2 ⟨rfl, hb2⟩
  have x0 := (hb2.cell (p := ⟨w1.heap.size, 0, none⟩) (hz _)).trans HBX.out.1
  have x2 := (hb2.cell (p := ⟨w1.heap.size, 2, none⟩) (hz _)).trans HBX.out.2.2.1
  go_wp2_with fail
  refine (C1.out w2 hb2).mono ?_
  rintro e w3 ⟨rfl, hb3⟩
  go_wp2_with fail
  go_ret
  exact ⟨rfl, tr (tr HA.out hb2) (tr ((Below.refl _ _).alloc (Nat.le_refl _) _) hb3)⟩
set_option maxHeartbeats 4000000 in
set_option maxRecDepth 100000 in
include hw hG h in
theorem st7_any (hP : plainR n = true) : OneQ 52 [] ok stR w0 (.mk 7 n kids p) := by
  intro v w1 hb hv
  obtain ⟨y, c, rfl, hrow⟩ := hv
  have hlen := len_wtL kids
  have hA : Below w1.heap.size w1 (w1.alloc (ndO 7 n y kids.length c p)) := (Below.refl _ _).alloc (Nat.le_refl _) _
  have c0 := plain_any n _ (by omega) ((hG.below hb).below hA)
  rw [hP] at c0
  have C1 : Hid (∀ w2, Below (w1.alloc (ndO 7 n y kids.length c p)).heap.size (w1.alloc (ndO 7 n y kids.length c p)) w2 → Calls Tryz.prog 93 #[.slice y kids.length c, .bool true, .slice (some ⟨w2.heap.size, 0, none⟩) 2 2] (w2.alloc (.cells #[.int .i64 8, .int .i64 0] 3)) (Yes (kindsR true [8, 0] kids) (w2.alloc (.cells #[.int .i64 8, .int .i64 0] 3)))) := fun w2 hb2 =>
    kinds_all ok true [8, 0] 2 rfl (by omega) kids kids.length rfl (by omega) y c _ 2 _ (((hrow.below hA).below hb2).below ((Below.refl _ _).alloc (Nat.le_refl _) _)) (ints_two _ 8 0 3) ((((h.below hb).below hA).below hb2).below ((Below.refl _ _).alloc (Nat.le_refl _) _))
  have HA := Lib.hid hA
  have hE : stR (.mk 7 n kids p) = kindsR true [8, 0] kids := by
    rw [stR_eq, kindsR_7, hP]
    simp
  rw [hE]
  show Calls _ _ _ _ (Yes _ w1)
  simp only [List.append_toArray, List.cons_append, List.nil_append]
  unfold ndO at c0
  have hz : ∀ o, w1.heap.size < (w1.alloc o).heap.size := fun o => by rw [World.size_alloc]; omega
  have hf := (Box4.new w1 (.int .i64 7) (.string ⟨n.toArray⟩) (.slice y kids.length c) (.int .i64 p)).facts
  have HBX := Lib.hid hf
  obtain ⟨B1, hB1⟩ : ∃ B, kindsR true [8, 0] kids = B := ⟨_, rfl⟩
  rw [hB1] at C1 ⊢
  clear h hrow hb hA hw hE hG hP hlen hf hB1
  go_enter Tryz.func52, Tryz.ntmps52
  go_wp2_with fail
  refine c0.mono ?_
  clear c0
  rintro e w2 ⟨rfl, hb2⟩
  have x0 := (hb2.cell (p := ⟨w1.heap.size, 0, none⟩) (hz _)).trans HBX.out.1
  have x2 := (hb2.cell (p := ⟨w1.heap.size, 2, none⟩) (hz _)).trans HBX.out.2.2.1
  go_wp2_with fail
  refine (C1.out w2 hb2).mono ?_
  rintro e w3 ⟨rfl, hb3⟩
  go_wp2_with fail
  go_ret
  exact ⟨rfl, tr (tr HA.out hb2) (tr ((Below.refl _ _).alloc (Nat.le_refl _) _) hb3)⟩
end
/-- All of a tree's parts are judged as they must be. -/
theorem node_ck (ok : Nat → Prop) (w0 : World) (hG : Gl w0) : ∀ (N : Nat) (x : Nd), wtN x < N → wtN x < 2 ^ 40 → OneQ 147 [] ok exR w0 x ∧ OneQ 52 [] ok stR w0 x ∧ OneQ 148 [] ok partR w0 x
  | 0, _, h, _ => by omega
  | N + 1, .mk k n kids p, hN, hw => by
    have hK : KidsOk ok w0 kids := fun x hx => node_ck ok w0 hG N x (by have := kid_wt (k := k) (n := n) (p := p) hx; omega) (by have := kid_wt (k := k) (n := n) (p := p) hx; omega)
    rw [wtN_mk] at hw
    have hlen := len_wtL kids
    have hw' : wtL kids + n.length < 2 ^ 40 := by omega
    refine ⟨?_, ?_, part_any ok w0 k n kids p (by omega) hK⟩
    · by_cases h9 : k = 9
      · subst h9; exact ex9_any ok w0 n kids p hw' hG
      by_cases h10 : k = 10
      · subst h10; exact ex10_any ok w0 n kids p hw' hG
      by_cases h11 : k = 11
      · subst h11; exact ex11_any ok w0 n kids p hw' hK
      by_cases h12 : k = 12
      · subst h12
        by_cases hl : kids.length = 1
        · obtain ⟨x, hx⟩ := List.length_eq_one_iff.1 hl
          exact ex12a_any ok w0 n kids p hK x hx
        · exact ex12b_any ok w0 n kids p hw' hK hl
      by_cases h13 : k = 13
      · subst h13; exact ex13_any ok w0 n kids p hw' hG hK
      by_cases h14 : k = 14
      · subst h14; exact ex14_any ok w0 n kids p hw' hK
      by_cases h15 : k = 15
      · subst h15; exact ex15_any ok w0 n kids p hw' hK
      exact exno_any ok w0 n kids p k (by omega)
    · by_cases h6 : k = 6
      · subst h6; exact st6_any ok w0 n kids p hw' hK
      cases hP : plainR n
      · exact stno_any ok w0 n kids p hw' hG k h6 hP
      by_cases h1 : k = 1
      · subst h1; exact st1_any ok w0 n kids p hw' hG hK hP
      by_cases h2 : k = 2
      · subst h2; exact st2_any ok w0 n kids p hw' hG hK hP
      by_cases h3 : k = 3
      · subst h3; exact st3_any ok w0 n kids p hw' hG hK hP
      by_cases h5 : k = 5
      · subst h5; exact st5_any ok w0 n kids p hw' hG hK hP
      by_cases h7 : k = 7
      · subst h7; exact st7_any ok w0 n kids p hw' hG hK hP
      exact stk_any ok w0 n kids p hw' hG k h6 (by omega) h5 h7 hP
set_option maxHeartbeats 4000000 in
set_option maxRecDepth 100000 in
theorem check_any (ok : Nat → Prop) (l : List Nd) (hw : wtL l < 2 ^ 40) (y : Option Addr) (c : Nat) (w : World) (hG : Gl w) (hrow : NdRow w ok l y) :
    Calls Tryz.prog 20 #[.slice y l.length c] w fun e w' => e = .returned (.int .i64 (checkR l)) ∧ Below w.heap.size w w' := by
  have hlen := len_wtL l
  have hsz := sz_wtL l
  have c0 := deep_any ok (szL l + 1) l (Nat.lt_succ_self _) (LenL.of_sz l (by omega)) (by omega) 1 (by omega) y c w hrow
  have e2 := enters_of Tryz.func52 (by kernel_rfl) rfl
  have C1 : Hid (∀ w1, Below w.heap.size w w1 → Calls Tryz.prog 51 #[.slice y l.length c, .func (.func 52) #[] #[]] w1 (Yes (stsR l) w1)) := fun w1 hb => by
    rw [stsR_all]
    exact all_any 52 e2 ok stR l l.length rfl (by omega) y c w1 (hrow.below hb) fun x hx => ((node_ck ok w hG (wtN x + 1) x (Nat.lt_succ_self _) (by have := wtL_mem hx; omega)).2.1).below hb
  have hR : checkR l = match deepL l 1 with | some _ => 3 | none => if stsR l then 0 else 290 := rfl
  obtain ⟨R, hR2⟩ : ∃ R, checkR l = R := ⟨_, rfl⟩
  rw [hR2] at hR ⊢
  have HR := Lib.hid hR
  obtain ⟨n, hn⟩ : ∃ n, l.length = n := ⟨_, rfl⟩
  rw [hn] at c0 C1 ⊢
  clear hG hrow hw hR hR2 hn hlen hsz
  go_enter Tryz.func20, Tryz.ntmps20
  go_wp2_with fail
  refine c0.mono ?_
  clear c0
  rintro e w1 ⟨hb, ⟨hr, rfl⟩ | ⟨nd, b, o, hr, rfl, hat⟩⟩
  · have hR := HR.out
    rw [hr] at hR
    clear hr
    cases hS : stsR l
    · have C2 := C1.out w1 hb
      rw [hS] at C2
      have HR2 : Hid (R = 290) := by
        rw [hS] at hR
        exact hR
      clear hS hR C1
      go_wp2_with fail
      refine C2.mono ?_
      clear C2
      rintro e w2 ⟨rfl, hb2⟩
      go_wp2_with fail
      go_ret
      exact ⟨by rw [HR2.out]; rfl, tr hb hb2⟩
    · have C2 := C1.out w1 hb
      rw [hS] at C2
      have HR2 : Hid (R = 0) := by
        rw [hS] at hR
        exact hR
      clear hS hR C1
      go_wp2_with fail
      refine C2.mono ?_
      clear C2
      rintro e w2 ⟨rfl, hb2⟩
      go_wp2_with fail
      go_ret
      exact ⟨by rw [HR2.out]; rfl, tr hb hb2⟩
  · have HR2 : Hid (R = 3) := by
      have hR := HR.out
      rw [hr] at hR
      exact hR
    clear hr hat C1
    go_wp2_with fail
    go_ret
    exact ⟨by rw [HR2.out]; rfl, hb⟩
/-- What Parse tells. -/
theorem parse_any (s : ByteArray) (w : World) (hG : Gl w) : Calls Tryz.prog 27 #[.string s] w (ParseEnd (parseR s.data.toList) w) := by
  unfold parseR
  cases hT : tokensL s.data.toList with
  | error f =>
    refine (parse_err s w hG f hT).mono ?_
    rintro e w' ⟨h1, b, h2, h3, h4⟩
    exact ⟨h1, b, h2, h3, h4⟩
  | ok ts =>
    have := parse_ok s w hG ts hT
    rw [Lib.size_eq] at this
    exact this
end Go.Proofs.YtpbkeamjdolpgaaGreatDoor
namespace Go.Proofs.YtpbkeamjdolpgaaGreatDoor
open Go.RowKit Go.Lib Go.Shelf Go.Sort

set_option maxHeartbeats 4000000 in
set_option maxRecDepth 100000 in
theorem tight_any (ok : Nat → Prop) (x : Nd) (hlen : x.kids.length < 2 ^ 62) (v : Value) (w : World) (hv : NdVal w ok x v) :
    Calls Tryz.prog 151 #[v] w fun e w' => e = .returned (.int .i64 (tightR x)) ∧ Below w.heap.size w w' := by
  obtain ⟨k, n, kids, p⟩ := x
  obtain ⟨y, c, rfl, hrow⟩ := hv
  generalize c.val = c
  have hlen' : kids.length < 2 ^ 62 := hlen
  have hA : ∀ o, Below w.heap.size w (w.alloc o) := fun o => (Below.refl _ _).alloc (Nat.le_refl _) _
  have c0 := levelC_any n (w.alloc (ndO k n y kids.length c p))
  have HA := Lib.hid hA
  have hR : tightR (.mk k n kids p) = if k = 15 then 0 else if k = 12 then (if kids.length = 2 then levelS n else 6) else if k = 14 then 7 else 8 := rfl
  rw [hR]
  unfold ndO at c0
  obtain ⟨m, hm⟩ : ∃ m, kids.length = m := ⟨_, rfl⟩
  obtain ⟨L, hL⟩ : ∃ L, levelS n = L := ⟨_, rfl⟩
  rw [hm] at c0 hlen' ⊢
  rw [hL] at c0 ⊢
  clear hrow hA hR hlen hL hm
  by_cases h15 : k = 15
  · subst h15
    clear c0
    go_enter Tryz.func151, Tryz.ntmps151
    go_wp2_with fail
    go_ret
    exact ⟨rfl, (HA.out _)⟩
  have q15 : (k == 15) = false := beq_eq_false_iff_ne.2 h15
  rw [if_neg h15]
  by_cases h12 : k = 12
  · subst h12
    rw [if_pos rfl]
    by_cases h2 : m = 2
    · subst h2
      rw [if_pos rfl]
      go_enter Tryz.func151, Tryz.ntmps151
      go_wp2_with fail
      refine c0.mono ?_
      clear c0
      rintro e w1 ⟨rfl, hb1⟩
      go_wp2_with fail
      go_ret
      exact ⟨rfl, tr (HA.out _) hb1⟩
    · rw [if_neg h2]
      clear c0
      have q2 : ((m : Int) == 2) = false := beq_eq_false_iff_ne.2 (by omega)
      go_enter Tryz.func151, Tryz.ntmps151
      go_wp2_with fail
      go_ret
      exact ⟨rfl, (HA.out _)⟩
  have q12 : (k == 12) = false := beq_eq_false_iff_ne.2 h12
  rw [if_neg h12]
  clear c0
  by_cases h14 : k = 14
  · subst h14
    go_enter Tryz.func151, Tryz.ntmps151
    go_wp2_with fail
    go_ret
    exact ⟨rfl, (HA.out _)⟩
  have q14 : (k == 14) = false := beq_eq_false_iff_ne.2 h14
  rw [if_neg h14]
  go_enter Tryz.func151, Tryz.ntmps151
  go_wp2_with fail
  go_ret
  exact ⟨rfl, (HA.out _)⟩

/-- What a function of the printer does: it writes these bytes. -/
def PrQ (b : Nat) (l : List UInt8) (g : Option Nat) (w : World) (s : List UInt8) (e : Ending) (w' : World) : Prop :=
  e = .returned (.tuple #[]) ∧ ∃ g', PrSt b (l ++ s) w' g' ∧ PrOw b g g' w w'
theorem PrOw.cell {b : Nat} {g g' : Option Nat} {w w' : World} (h : PrOw b g g' w w') {q : Addr} {v : Value} (hn : q.block ≠ b) (hg : some q.block ≠ g) (hc : w.cell? q = some v) : w'.cell? q = some v :=
  (World.cell?_of_block (h.block q.block (World.block_lt_of_cell? w q hc) hn hg)).trans hc
theorem PrOw.ne {b : Nat} {g g' : Option Nat} {w w' : World} (h : PrOw b g g' w w') {k : Nat} (hk : k < w.heap.size) (hn : some k ≠ g) : some k ≠ g' := by
  rcases h.lies with e | e
  · rw [e]; exact hn
  · intro e2
    have := e k e2.symm
    omega
theorem NdRow.pr {w w' : World} {b : Nat} {g g' : Option Nat} {l : List Nd} {y : Option Addr} (h : NdRow w (fun k => k < b) l y) (hb : PrOw b g g' w w') (hg : ∀ k, g = some k → b < k) : NdRow w' (fun k => k < b) l y :=
  NdRow.mono (fun _ h _ => h) (fun k hk hlt => hb.block k hlt (by omega) (fun e => by have := hg k e.symm; omega)) l y h
theorem levelS_le (s : List UInt8) : levelS s ≤ 5 := by
  unfold levelS
  repeat' split
  all_goals omega
/-- The printer's expressions. -/
def ExP (x : Nd) : Prop :=
  ∀ (b : Nat) (l : List UInt8) (g : Option Nat) (w : World) (v : Value) (a : Nat), PrSt b l w g → NdVal w (fun k => k < b) x v → a < 100 → l.length + (exT x a).length ≤ 2 ^ 46 →
    Calls Tryz.prog 95 #[.pointer (some ⟨b, 0, none⟩), v, .int .i64 a] w (PrQ b l g w (exT x a))
/-- Rows of expressions between two texts. -/
def RoP (kids : List Nd) : Prop :=
  ∀ (b : Nat) (l s t : List UInt8) (g : Option Nat) (w : World) (y : Option Addr) (c : Nat), PrSt b l w g → NdRow w (fun k => k < b) kids y → l.length + (s ++ joinC (ex0s kids) ++ t).length ≤ 2 ^ 46 →
    Calls Tryz.prog 96 #[.pointer (some ⟨b, 0, none⟩), .string ⟨s.toArray⟩, .slice y kids.length c, .string ⟨t.toArray⟩] w (PrQ b l g w (s ++ joinC (ex0s kids) ++ t))
theorem PrQ.step {b : Nat} {l s t u : List UInt8} {g g1 : Option Nat} {w w1 : World} {e : Ending} {w2 : World} (h : PrQ b (l ++ s) g1 w1 t e w2) (ho : PrOw b g g1 w w1) (hu : u = s ++ t) : PrQ b l g w u e w2 := by
  subst hu
  obtain ⟨h1, g2, h2, h3⟩ := h
  exact ⟨h1, g2, by rw [← List.append_assoc]; exact h2, ho.trans h3⟩
/-- What stands within the printer's expr. -/
structure ExS (b : Nat) (g : Option Nat) (w : World) (kids : List Nd) (bx : Nat) (k : Int) (n : List UInt8) (y : Option Addr) (c : Nat) (p : Int) (L : List UInt8) (g' : Option Nat) (w' : World) : Prop where
  st : PrSt b L w' g'
  ow : PrOw b g g' w w'
  box : Box4 w' bx (.int .i64 k) (.string ⟨n.toArray⟩) (.slice y kids.length c) (.int .i64 p)
  row : NdRow w' (fun k => k < b) kids y
  ne : bx ≠ b
  hg : some bx ≠ g'
theorem ExS.step {b : Nat} {g : Option Nat} {w : World} {kids : List Nd} {bx : Nat} {k : Int} {n : List UInt8} {y : Option Addr} {c : Nat} {p : Int} {L L2 : List UInt8} {g1 g2 : Option Nat} {w1 w2 : World}
    (h : ExS b g w kids bx k n y c p L g1 w1) (h1 : PrSt b L2 w2 g2) (h2 : PrOw b g1 g2 w1 w2) : ExS b g w kids bx k n y c p L2 g2 w2 :=
  ⟨h1, h.ow.trans h2, (h2.block bx h.box.lt h.ne h.hg).trans h.box, h.row.pr h2 fun _ hk => (h.st.buf hk).1, h.ne, h2.ne h.box.lt h.hg⟩
theorem ExS.drew {b : Nat} {g : Option Nat} {w : World} {kids : List Nd} {bx : Nat} {k : Int} {n : List UInt8} {y : Option Addr} {c : Nat} {p : Int} {L : List UInt8} {g1 : Option Nat} {w1 : World}
    (h : ExS b g w kids bx k n y c p L g1 w1) : ExS b g w kids bx k n y c p L g1 w1.drew := h.step (h.st.below (Below.drew (Below.refl _ _))) (PrOw.of_below (Below.drew (Below.refl _ _)))
theorem NdRow.get {w : World} {ok : Nat → Prop} {l : List Nd} {kb ko : Nat} {i : Nat} {x : Nd} (h : NdRow w ok l (some ⟨kb, ko, none⟩)) (hi : l[i]? = some x) : NdAt w ok x kb (ko + i * 4) := by
  obtain ⟨b, o, h1, h2⟩ := h.at_ hi
  cases h1
  exact h2
theorem parT_len (c : Bool) (s : List UInt8) : s.length ≤ (parT c s).length := by
  unfold parT
  split
  · simp
    omega
  · omega
theorem cat_run (a b c : List UInt8) (hc : c = a ++ b) (h : a.length + b.length ≤ 2 ^ 62) (W : World) : (Op.stringOp .add ⟨a.toArray⟩ ⟨b.toArray⟩).run Tryz.prog W = .ok (.string ⟨c.toArray⟩) W := by
  subst hc
  have e1 : (⟨a.toArray⟩ : ByteArray).size = a.length := by show a.toArray.size = _; simp
  have e2 : (⟨b.toArray⟩ : ByteArray).size = b.length := by show b.toArray.size = _; simp
  rw [run_string_add_sum W _ _ (by rw [e1, e2]; omega)]
  have e : (⟨a.toArray⟩ ++ ⟨b.toArray⟩ : ByteArray) = ⟨(a ++ b).toArray⟩ := by
    apply ByteArray.ext
    rw [ByteArray.data_append]
    simp
  rw [e]
/-- The way out of expr. -/
theorem ex_out {b : Nat} {l L u : List UInt8} {g g1 : Option Nat} {w W : World} {tmps : Array Value} (hst : PrSt b L W g1) (how : PrOw b g g1 w W) (hL : L = l ++ u) :
    bodyPostD Tryz.prog Tryz.f95 (PrQ b l g w u) .normal { tmps := tmps, defers := [] } W := by
  subst hL
  exact ⟨_, results_none rfl _ _ _, rfl, g1, hst, how⟩
theorem ex_out_par {b : Nat} {l L u : List UInt8} {g g1 : Option Nat} {w W : World} {tmps : Array Value} (hst : PrSt b L W g1) (how : PrOw b g g1 w W) (hL : L ++ [41] = l ++ u) (hlen : L.length + 1 ≤ 2 ^ 46) :
    bodyPostD Tryz.prog Tryz.f95 (PrQ b l g w u) .normal { tmps := tmps, defers := [{ target := .fn (.func 67) #[], args := #[.pointer (some ⟨b, 0, none⟩), .string { data := #[41] }] }] } W := by
  show Leaves _ _ _ _ _ _ _
  refine leaves_cons (f := 67) (args := #[.pointer (some ⟨b, 0, none⟩), .string { data := #[41] }]) (by simp) (by simp [go_sem]) ?_
  refine (write_defer b L [41] g1 W hst hlen .returning).mono ?_
  rintro e u' w'' ⟨rfl, rfl, g2, h1, h2⟩
  show Leaves _ _ _ _ [] .returning _
  exact ⟨_, results_none rfl _ _ _, rfl, g2, hL ▸ h1, how.trans h2⟩
end Go.Proofs.YtpbkeamjdolpgaaGreatDoor
namespace Go.Proofs.YtpbkeamjdolpgaaGreatDoor
open Go.RowKit Go.Extern.Stop Go.Stop Go.Extern

/-- errors.As(nil, target). -/
theorem as_nil (t : Value) (w : World) :
    Calls Tryz.prog 61 #[.nilIface, t] w fun e w' => e = .returned (.bool false) ∧ w' = w := by
  go_enter Tryz.func61, Tryz.ntmps61
  go_wp2
  go_ret
  exact ⟨rfl, rfl⟩

/-! ### CLOSED FACTS ON THE MODEL's ENTRIES FOR internal/reflectlite, at this program's types: 25: *p.E · 27: **p.E · 23: error · 45: reflectlite's rtype · 1: how many package-level variables the dump has -/
theorem Tryz.valueOf27 (t : Addr) (w : World) : (ReflectliteValue.unpack (.iface 98 (.pointer (some t)))).run Tryz.prog w
    = .ok (.agg #[.pointer (some ⟨10, 98, none⟩), .pointer (some ⟨w.heap.size, 0, none⟩), .int .u64 150]) (w.alloc (.cells #[.pointer (some t)] 98)) := by kernel_rfl
theorem Tryz.type27 (a : Addr) (w : World) : (ReflectliteValue.methodAny (ReflectliteValue.valueError "reflectlite.Value.Type" 0) (fun t _ _ _ => ReflectliteType.toType t) #[.agg #[.pointer (some ⟨10, 98, none⟩), .pointer (some a), .int .u64 150]]).run Tryz.prog w
    = .ok (.iface 187 (.agg #[.pointer (some ⟨10, 98, none⟩)])) w := by kernel_rfl
theorem Tryz.methodKind (h : Value) (w : World) : (Go.method 403 187 (.agg #[h]) "Kind").run Tryz.prog w = .ok (267, h) w := by kernel_rfl
theorem Tryz.kind27 (w : World) : ((ReflectliteType.abiMethod fun t => (fun a : Nat => Value.int IntKind.u8 (a : Int)) <$> Rtype.kind t) #[.pointer (some ⟨10, 98, none⟩)]).run Tryz.prog w = .ok (.int .u8 22) w := by kernel_rfl
theorem Tryz.kind25 (w : World) : ((ReflectliteType.abiMethod fun t => (fun a : Nat => Value.int IntKind.u8 (a : Int)) <$> Rtype.kind t) #[.pointer (some ⟨10, 23, none⟩)]).run Tryz.prog w = .ok (.int .u8 22) w := by kernel_rfl

/-! ### THE ENTRIES THAT READ OR WRITE MEMORY: laws with a premise on the cell (after Derived/Lib/ReflectliteSlice.lean's manner: each unfolding a lemma of its own, by rfl) -/
theorem rlm (z : Sem Value) (f : TypeId → Addr → Nat → Nat → Sem Value) (v : Value) :
    ReflectliteValue.method z f #[v] = (do match ← ReflectliteValue.parts v with | none => z | some (t, a, fl) => f t a fl (fl % 32)) := rfl
theorem Tryz.parts27 (a : Addr) (w : World) : (ReflectliteValue.parts (.agg #[.pointer (some ⟨10, 98, none⟩), .pointer (some a), .int .u64 150])).run Tryz.prog w = .ok (some (98, a, 150)) w := by kernel_rfl
/-- (Value).IsNil at the Value of a **p.E that is not nil. -/
theorem Tryz.isNil27 (a p : Addr) (W : World) (ha : W.cell? a = some (.pointer (some p))) :
    (ReflectliteValue.method (ReflectliteValue.valueError "reflectlite.Value.IsNil" 0) ReflectliteValue.isNil #[.agg #[.pointer (some ⟨10, 98, none⟩), .pointer (some a), .int .u64 150]]).run Tryz.prog W = .ok (.bool false) W := by
  rw [rlm]
  simp only [Sem.run_bind, Tryz.parts27, Result.andThen]
  simp [ReflectliteValue.isNil, loadVar, isAgg, underlying, Tryz.underlying98, ha, Result.andThen]

theorem Tryz.methodElem (h : Value) (w : World) : (Go.method 403 187 (.agg #[h]) "Elem").run Tryz.prog w = .ok (278, .agg #[h]) w := by kernel_rfl
theorem Tryz.methodImplements (h : Value) (w : World) : (Go.method 403 187 (.agg #[h]) "Implements").run Tryz.prog w = .ok (279, .agg #[h]) w := by kernel_rfl
theorem Tryz.methodAssignableTo (h : Value) (w : World) : (Go.method 403 187 (.agg #[h]) "AssignableTo").run Tryz.prog w = .ok (276, .agg #[h]) w := by kernel_rfl
theorem Tryz.elem27 (w : World) : (ReflectliteType.method ReflectliteType.elem #[.agg #[.pointer (some ⟨10, 98, none⟩)]]).run Tryz.prog w = .ok (.iface 187 (.agg #[.pointer (some ⟨10, 23, none⟩)])) w := by kernel_rfl
theorem Tryz.implements25 (w : World) : (ReflectliteType.relation "Implements" ReflectliteType.implements_ #[.agg #[.pointer (some ⟨10, 23, none⟩)], .iface 187 (.agg #[.pointer (some ⟨10, 36, none⟩)])]).run Tryz.prog w = .ok (.bool true) w := by kernel_rfl
theorem Tryz.typeOf25 (v : Value) (w : World) : (ReflectliteType.typeOf #[.iface 23 v]).run Tryz.prog w = .ok (.iface 187 (.agg #[.pointer (some ⟨10, 23, none⟩)])) w := by kernel_rfl
theorem Tryz.assignable25 (w : World) : (ReflectliteType.relation "AssignableTo" ReflectliteType.assignableTo #[.agg #[.pointer (some ⟨10, 23, none⟩)], .iface 187 (.agg #[.pointer (some ⟨10, 23, none⟩)])]).run Tryz.prog w = .ok (.bool true) w := by kernel_rfl
theorem Tryz.valueOf25 (e : Addr) (w : World) : (ReflectliteValue.unpack (.iface 23 (.pointer (some e)))).run Tryz.prog w
    = .ok (.agg #[.pointer (some ⟨10, 23, none⟩), .pointer (some ⟨w.heap.size, 0, none⟩), .int .u64 150]) (w.alloc (.cells #[.pointer (some e)] 23)) := by kernel_rfl

theorem Tryz.elemOf27 (w : World) : (Rtype.elem? 98).run Tryz.prog w = .ok (some 23) w := by kernel_rfl
theorem Tryz.mk25 (p : Addr) (w : World) : (ReflectliteValue.mk 23 p ReflectliteValue.flagAddr).run Tryz.prog w = .ok (.agg #[.pointer (some ⟨10, 23, none⟩), .pointer (some p), .int .u64 406]) w := by kernel_rfl
/-- (Value).Elem at the Value of a **p.E that is not nil: the Value of the *p.E variable that it points to, addressable. -/
theorem Tryz.elemV27 (a p : Addr) (W : World) (ha : W.cell? a = some (.pointer (some p))) :
    (ReflectliteValue.method (ReflectliteValue.valueError "reflectlite.Value.Elem" 0) ReflectliteValue.elem #[.agg #[.pointer (some ⟨10, 98, none⟩), .pointer (some a), .int .u64 150]]).run Tryz.prog W
      = .ok (.agg #[.pointer (some ⟨10, 23, none⟩), .pointer (some p), .int .u64 406]) W := by
  rw [rlm]
  simp only [Sem.run_bind, Tryz.parts27, Result.andThen]
  simp [ReflectliteValue.elem, loadVar, isAgg, underlying, Tryz.underlying98, ha, Result.andThen, Tryz.elemOf27, Tryz.mk25]
theorem rls (v x : Value) : ReflectliteValue.set #[v, x] = (do
    let (some (dst, a, fl), some (src, b, _)) := (← ReflectliteValue.parts v, ← ReflectliteValue.parts x)
      | unsupported (.noEntry "extern/(internal/reflectlite.Value).Set.zeroValue")
    if fl / ReflectliteValue.flagAddr % 2 == 0 then unsupported (.noEntry "extern/(internal/reflectlite.Value).Set.unaddressable")
    let val ← loadVar src b
    if ← Rtype.directlyAssignable dst src then storeVar dst a val
    else if ← Rtype.implements dst src then
      if (← Rtype.kind src) == 20 then
        match val with
        | .nilIface => unsupported (.noEntry "extern/reflectlite: a nil value of one interface type handed on as a value of another")
        | _ => storeVar dst a val
      else storeVar dst a (.iface src val)
    else panicString ("reflectlite.Set: value of type " ++ (← Rtype.spelt src) ++ " is not assignable to type " ++ (← Rtype.spelt dst))
    pure (.tuple #[])) := rfl
theorem Tryz.parts25a (a : Addr) (w : World) : (ReflectliteValue.parts (.agg #[.pointer (some ⟨10, 23, none⟩), .pointer (some a), .int .u64 406])).run Tryz.prog w = .ok (some (23, a, 406)) w := by kernel_rfl
theorem Tryz.parts25 (a : Addr) (w : World) : (ReflectliteValue.parts (.agg #[.pointer (some ⟨10, 23, none⟩), .pointer (some a), .int .u64 150])).run Tryz.prog w = .ok (some (23, a, 150)) w := by kernel_rfl
theorem Tryz.direct25 (w : World) : (Rtype.directlyAssignable 23 23).run Tryz.prog w = .ok true w := by kernel_rfl
theorem Tryz.size25 (w : World) : (sizeOf 23).run Tryz.prog w = .ok 1 w := by kernel_rfl
/-- (Value).Set: the *p.E variable at 'ta' gets what the Value's own variable 'b' holds. -/
theorem Tryz.set25 (ta b e : Addr) (old : Value) (W : World) (hb : W.cell? b = some (.pointer (some e))) (ht : W.cell? ta = some old) (hf : W.frozen? ta = false) :
    (ReflectliteValue.set #[.agg #[.pointer (some ⟨10, 23, none⟩), .pointer (some ta), .int .u64 406], .agg #[.pointer (some ⟨10, 23, none⟩), .pointer (some b), .int .u64 150]]).run Tryz.prog W
      = .ok (.tuple #[]) (W.setCell ta (.pointer (some e))) := by
  rw [rls]
  simp only [Sem.run_bind, Tryz.parts25a, Tryz.parts25, Result.andThen]
  simp [ReflectliteValue.flagAddr, loadVar, isAgg, underlying, Tryz.underlying23, hb, Result.andThen, Tryz.direct25, storeVar, Value.cells, storeCells, Addr.add]
  rw [run_store Tryz.prog W ta _ _ (by rfl)]
  simp [ht, hf]

set_option maxHeartbeats 4000000 in
theorem as_hit (e t : Addr) (old : Value) (w : World) (hg : w.cell? ⟨0, 0, none⟩ = some (.iface 187 (.agg #[.pointer (some ⟨10, 36, none⟩)]))) (ht0 : w.cell? t = some old) (hf0 : w.frozen? t = false) :
    Calls Tryz.prog 61 #[.iface 23 (.pointer (some e)), .iface 98 (.pointer (some t))] w fun ev w' => ev = .returned (.bool true) ∧ w' = ((((w.alloc (.cells #[.pointer (some t)] 98)).alloc (.cells #[.pointer (some ⟨10, 98, none⟩), .pointer (some ⟨w.heap.size, 0, none⟩), .int .u64 150] 144)).alloc (.cells #[.pointer (some ⟨10, 98, none⟩), .pointer (some ⟨w.heap.size, 0, none⟩), .int .u64 150] 144)).alloc (.cells #[.pointer (some e)] 23)).setCell t (.pointer (some e)) := by
  have h6 := @run_callFunc_extern Tryz.prog 112 _ (fun args => ReflectliteValue.unpack (args.getD 0 (.tuple #[]))) Tryz.func112 (by kernel_rfl) (by kernel_rfl) (by kernel_rfl) (by kernel_rfl)
  have h7 := @run_callFunc_extern Tryz.prog 113 _ (ReflectliteValue.methodAny (ReflectliteValue.valueError "reflectlite.Value.Type" 0) (fun t _ _ _ => ReflectliteType.toType t)) Tryz.func113 (by kernel_rfl) (by kernel_rfl) (by kernel_rfl) (by kernel_rfl)
  have h8 := @run_callFunc_extern Tryz.prog 114 _ (ReflectliteValue.method (ReflectliteValue.valueError "reflectlite.Value.IsNil" 0) ReflectliteValue.isNil) Tryz.func114 (by kernel_rfl) (by kernel_rfl) (by kernel_rfl) (by kernel_rfl)
  have h27 := @run_callFunc_extern Tryz.prog 267 _ (ReflectliteType.abiMethod fun t => do pure (.int .u8 (← Rtype.kind t))) Tryz.func267 (by kernel_rfl) (by kernel_rfl) (by kernel_rfl) (by kernel_rfl)
  have h37 := @run_callFunc_extern Tryz.prog 278 _ (ReflectliteType.method ReflectliteType.elem) Tryz.func278 (by kernel_rfl) (by kernel_rfl) (by kernel_rfl) (by kernel_rfl)
  have h38 := @run_callFunc_extern Tryz.prog 279 _ (ReflectliteType.relation "Implements" ReflectliteType.implements_) Tryz.func279 (by kernel_rfl) (by kernel_rfl) (by kernel_rfl) (by kernel_rfl)
  have h10 := @run_callFunc_extern Tryz.prog 116 _ ReflectliteType.typeOf Tryz.func116 (by kernel_rfl) (by kernel_rfl) (by kernel_rfl) (by kernel_rfl)
  have h35 := @run_callFunc_extern Tryz.prog 276 _ (ReflectliteType.relation "AssignableTo" ReflectliteType.assignableTo) Tryz.func276 (by kernel_rfl) (by kernel_rfl) (by kernel_rfl) (by kernel_rfl)
  have h11 := @run_callFunc_extern Tryz.prog 168 _ (ReflectliteValue.method (ReflectliteValue.valueError "reflectlite.Value.Elem" 0) ReflectliteValue.elem) Tryz.func168 (by kernel_rfl) (by kernel_rfl) (by kernel_rfl) (by kernel_rfl)
  have h12 := @run_callFunc_extern Tryz.prog 169 _ ReflectliteValue.set Tryz.func169 (by kernel_rfl) (by kernel_rfl) (by kernel_rfl) (by kernel_rfl)
  have tO := Tryz.typeOf25
  have mA := Tryz.methodAssignableTo
  have a25 := Tryz.assignable25
  have v25 := Tryz.valueOf25
  have f6 := Tryz.valueOf27
  have f7 := Tryz.type27
  have mK := Tryz.methodKind
  have mE := Tryz.methodElem
  have mI := Tryz.methodImplements
  have k27 := Tryz.kind27
  have k25 := Tryz.kind25
  have e27 := Tryz.elem27
  have i25 := Tryz.implements25
  have n8 := Tryz.isNil27 ⟨w.heap.size, 0, none⟩ t ((w.alloc (.cells #[.pointer (some t)] 98)).alloc (.cells #[.pointer (some ⟨10, 98, none⟩), .pointer (some ⟨w.heap.size, 0, none⟩), .int .u64 150] 144)) (by simp)
  have hlt : 0 < w.heap.size := by
    rcases Nat.lt_or_ge 0 w.heap.size with h | h
    · exact h
    · simp [World.cell?, Array.getElem?_eq_none h] at hg
  have hg2 : ((w.alloc (.cells #[.pointer (some t)] 98)).alloc (.cells #[.pointer (some ⟨10, 98, none⟩), .pointer (some ⟨w.heap.size, 0, none⟩), .int .u64 150] 144)).cell? ⟨0, 0, none⟩ = some (.iface 187 (.agg #[.pointer (some ⟨10, 36, none⟩)])) := by
    rw [World.cell?_alloc_lt _ _ ⟨0, 0, none⟩ (by simp), World.cell?_alloc_lt _ _ ⟨0, 0, none⟩ hlt]; exact hg
  have htl : t.block < w.heap.size := by
    rcases Nat.lt_or_ge t.block w.heap.size with h | h
    · exact h
    · simp [World.cell?, Array.getElem?_eq_none h] at ht0
  have el := Tryz.elemV27 ⟨w.heap.size, 0, none⟩ t (((w.alloc (.cells #[.pointer (some t)] 98)).alloc (.cells #[.pointer (some ⟨10, 98, none⟩), .pointer (some ⟨w.heap.size, 0, none⟩), .int .u64 150] 144)).alloc (.cells #[.pointer (some ⟨10, 98, none⟩), .pointer (some ⟨w.heap.size, 0, none⟩), .int .u64 150] 144)) (by rw [World.cell?_alloc_lt _ _ ⟨w.heap.size, 0, none⟩ (by simp; omega)]; simp)
  have st := Tryz.set25 t ⟨w.heap.size + 1 + 1 + 1, 0, none⟩ e old ((((w.alloc (.cells #[.pointer (some t)] 98)).alloc (.cells #[.pointer (some ⟨10, 98, none⟩), .pointer (some ⟨w.heap.size, 0, none⟩), .int .u64 150] 144)).alloc (.cells #[.pointer (some ⟨10, 98, none⟩), .pointer (some ⟨w.heap.size, 0, none⟩), .int .u64 150] 144)).alloc (.cells #[.pointer (some e)] 23))
    (by rw [World.cell?_alloc_at _ _ _ _ (by simp)]; rfl)
    (by rw [World.cell?_alloc_lt _ _ t (by simp; omega), World.cell?_alloc_lt _ _ t (by simp; omega), World.cell?_alloc_lt _ _ t (by simp; omega), World.cell?_alloc_lt _ _ t htl]; exact ht0)
    (by rw [World.frozen?_alloc_old _ _ t (by simp; omega), World.frozen?_alloc_old _ _ t (by simp; omega), World.frozen?_alloc_old _ _ t (by simp; omega), World.frozen?_alloc_old _ _ t (Nat.ne_of_lt htl)]; exact hf0)
  go_enter Tryz.func61, Tryz.ntmps61
  go_wp2
  refine wp_loop_rounds 1 ?_
  rw [rounds_succ]
  go_wp2
  go_ret
  exact ⟨rfl, rfl⟩

/-- errors.As of a *api.Fault: what a caller needs. -/
theorem as_hit2 (e t : Addr) (old : Value) (w : World) (hg : w.cell? ⟨0, 0, none⟩ = some (.iface 187 (.agg #[.pointer (some ⟨10, 36, none⟩)]))) (ht0 : w.cell? t = some old) (hf0 : w.frozen? t = false) :
    Calls Tryz.prog 61 #[.iface 23 (.pointer (some e)), .iface 98 (.pointer (some t))] w fun ev w' => ev = .returned (.bool true) ∧ Below t.block w w' ∧ w'.cell? t = some (.pointer (some e)) ∧ (∀ k, k ≠ t.block → k < w.heap.size → w'.heap[k]? = w.heap[k]?) := by
  refine (as_hit e t old w hg ht0 hf0).mono fun ev w' ⟨h1, h2⟩ => ?_
  subst h2
  have htl : t.block < w.heap.size := World.block_lt_of_cell? w t ht0
  have hb := ((((Below.refl w.heap.size w).alloc (Nat.le_refl _) (.cells #[.pointer (some t)] 98)).alloc (by simp) (.cells #[.pointer (some ⟨10, 98, none⟩), .pointer (some ⟨w.heap.size, 0, none⟩), .int .u64 150] 144)).alloc (by simp; omega) (.cells #[.pointer (some ⟨10, 98, none⟩), .pointer (some ⟨w.heap.size, 0, none⟩), .int .u64 150] 144)).alloc (by simp; omega) (.cells #[.pointer (some e)] 23)
  refine ⟨h1, (hb.mono (Nat.le_of_lt htl)).setCell (Nat.le_refl _) _, ?_, ?_⟩
  · have hc := hb.cell htl
    rw [ht0] at hc
    exact World.cell?_setCell_same _ _ _ hc
  · intro k hk hkl
    rw [Below.heap_setCell _ _ _ _ hk]
    exact hb.block k hkl
end Go.Proofs.YtpbkeamjdolpgaaGreatDoor
namespace Go.Proofs.YtpbkeamjdolpgaaGreatDoor
open Go.RowKit Go.Lib Go.Extern.Stop Go.Stop Go.Extern

theorem run_eql_iface_int {P : Program} (w : World) {ti tp : TypeId} {ms : Array (String × TypeId)} {k : IntKind} {i : TypeInfo} (a : Int)
    (hi : P.underlying ti = some (.interface ms)) (hp : P.underlying tp = some (.int k)) (hinfo : P.info? tp = some i) (hcomp : i.comparable = true) :
    (binOp .eql ti (.iface tp (.int k a)) (.iface tp (.int k a))).run P w = .ok (.bool true) w := by
  have h : ∀ d : Nat, (Op.equalIn (d + 2) ti (.iface tp (.int k a)) (.iface tp (.int k a))).run P w = .ok true w := fun d => by
    simp [Op.equalIn, run_underlying hi, run_underlying hp, typeInfo, hinfo, hcomp]
  simp only [binOp]
  simp [Op.equal, Op.maxDepth, h 9998]

theorem Tryz.isTypeOf (v : Value) (w : World) : (Extern.ReflectliteType.typeOf #[.iface 30 v]).run Tryz.prog w = .ok (.iface 187 (.agg #[.pointer (some ⟨10, 30, none⟩)])) w := by kernel_rfl
theorem Tryz.cmpEntry : ∃ M : Array Value → Sem Value, (∀ args w, (callFunc 277 args).run Tryz.prog w = ((M args).run Tryz.prog w).andThen fun v w' => .ok (.value v) w') ∧
    ∀ w, (M #[.agg #[.pointer (some ⟨10, 30, none⟩)]]).run Tryz.prog w = .ok (.bool true) w :=
  ⟨Extern.ReflectliteType.method fun t => do Extern.Rtype.noPackHeld "Comparable" t; pure (.bool (← typeInfo t).comparable),
    @run_callFunc_extern Tryz.prog 277 _ _ Tryz.func277 (by kernel_rfl) (by kernel_rfl) (by kernel_rfl) (by kernel_rfl), fun w => by kernel_rfl⟩
theorem Tryz.isMethodComparable (v : Value) (w : World) : (Go.method 403 187 v "Comparable").run Tryz.prog w = .ok (277, v) w := by kernel_rfl
theorem Tryz.isComp : (Tryz.prog.info? 30).map (·.comparable) = some true := by kernel_rfl
theorem Tryz.noIsF (v : Value) (xT : TypeId) (w : World) : (Instr.typeAssert (.iface 23 v) xT 199 true).run Tryz.prog w = .ok (.tuple #[.nilIface, .bool false]) w := run_typeAssert_lacksB Tryz.underlying199 (by kernel_rfl) (by kernel_rfl) v xT w
theorem Tryz.hasUnwrapF (v : Value) (xT : TypeId) (w : World) : (Instr.typeAssert (.iface 23 v) xT 194 true).run Tryz.prog w = .ok (.tuple #[.iface 23 v, .bool true]) w := run_typeAssert_hasB Tryz.underlying194 (by kernel_rfl) v xT w
theorem Tryz.methodUnwrap (v : Value) (w : World) : (Go.method 403 23 v "Unwrap").run Tryz.prog w = .ok (270, v) w := by kernel_rfl

set_option maxHeartbeats 4000000 in
/-- errors.Is(a fault, its code). -/
theorem is_fault (b : Nat) (c : Int) (w : World) (h1 : w.cell? ⟨b, 0, none⟩ = some (.int .i64 c)) :
    Calls Tryz.prog 62 #[.iface 23 (.pointer (some ⟨b, 0, none⟩)), .iface 30 (.int .i64 c)] w fun e w' => e = .returned (.bool true) ∧ w = w' := by
  obtain ⟨i, hi, hcmp⟩ := Option.map_eq_some_iff.1 Tryz.isComp
  have h8 := @run_callFunc_extern Tryz.prog 116 _ Extern.ReflectliteType.typeOf Tryz.func116 (by kernel_rfl) (by kernel_rfl) (by kernel_rfl) (by kernel_rfl)
  obtain ⟨M, h32, cT⟩ := Tryz.cmpEntry
  have tT := Tryz.isTypeOf
  have mR := Tryz.isMethodComparable
  have nE := Tryz.noIsF
  have uE := Tryz.hasUnwrapF
  have mU := Tryz.methodUnwrap
  have heq := run_eql_iface_int (P := Tryz.prog) w c Tryz.underlying36 Tryz.underlying30 hi hcmp
  have hty := run_eql_iface_types (P := Tryz.prog) 23 30 (.pointer (some ⟨b, 0, none⟩)) (.int .i64 c) Tryz.underlying36 (by decide) w
  clear hi hcmp
  go_enter Tryz.func62, Tryz.ntmps62
  go_wp2
  refine wp_loop_rounds 2 ?_
  rw [rounds_succ]
  go_wp2
  rw [rounds_succ]
  go_wp2
  go_ret
  exact ⟨rfl, rfl⟩

end Go.Proofs.YtpbkeamjdolpgaaGreatDoor
