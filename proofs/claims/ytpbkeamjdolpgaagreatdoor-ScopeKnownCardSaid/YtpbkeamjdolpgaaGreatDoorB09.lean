/- The walk of tree.expression. The walk of tree.expression: signs, numbers, and what is none. The walks of the parser's atoms and signs of one. -/
import Derived.Test.YtpbkeamjdolpgaaGreatDoorB07
import Derived.Test.YtpbkeamjdolpgaaGreatDoorB08
import Derived.Test.YtpbkeamjdolpgaaGreatDoorB03
namespace Go.Proofs.YtpbkeamjdolpgaaGreatDoor
open Go.RowKit Go.Lib Go.Shelf Go.Sort

theorem kindsR_false (ws : List Int) (l : List Nd) : kindsR false ws l = shR ws l := by
  unfold kindsR
  by_cases h : l.length = ws.length
  · rw [h, List.take_length]
    simp
  · have : shR ws l = false := by
      cases hs : shR ws l
      · rfl
      · exact absurd (shR_len ws l hs).symm h
    rw [this]
    simp [h]
theorem shR_m1 (x : Nd) (ws : List Int) (l : List Nd) : shR (-1 :: ws) (x :: l) = (exR x && shR ws l) := rfl
theorem shR_m2 (l : List Nd) : shR [-1, -1] l = (decide (l.length = 2) && exsR l) := by
  match l with
  | [] => rfl
  | [x] =>
    rw [shR_m1]
    simp [shR]
  | [x, y] =>
    show (exR x && (exR y && true)) = (decide (2 = 2) && (exR x && (exR y && true)))
    simp
  | x :: y :: z :: r =>
    rw [shR_m1, shR_m1]
    simp [shR]
theorem shR_m3 (l : List Nd) : shR [-1, -1, -1] l = (decide (l.length = 3) && exsR l) := by
  match l with
  | [] => rfl
  | [x] =>
    rw [shR_m1]
    simp [shR]
  | [x, y] =>
    rw [shR_m1, shR_m1]
    simp [shR]
  | [x, y, z] =>
    show (exR x && (exR y && (exR z && true))) = (decide (3 = 3) && (exR x && (exR y && (exR z && true))))
    simp
  | x :: y :: z :: u :: r =>
    rw [shR_m1, shR_m1, shR_m1]
    simp [shR]
theorem kinds_all (ok : Nat → Prop) (short : Bool) (ws : List Int) (m : Nat) (hm : ws.length = m) (hm3 : m ≤ 3) (l : List Nd) (n : Nat) (hl : l.length = n) (hn : n < 2 ^ 62) (y : Option Addr) (c g cm : Nat) (w : World) (hrow : NdRow w ok l y) (hi : IntRow w g ws) (h : KidsOk ok w l) :
    Calls Tryz.prog 93 #[.slice y n c, .bool short, .slice (some ⟨g, 0, none⟩) m cm] w (Yes (kindsR short ws l) w) := by
  by_cases hs : n = m ∨ short = true ∧ n + 1 = m
  · have e : kindsR short ws l = shR (ws.take n) l := by
      unfold kindsR
      rw [hl, hm]
      rcases hs with h | ⟨h1, h2⟩
      · simp [h]
      · simp [h1, h2]
    rw [e]
    exact kinds_yes ok short ws m hm hm3 l n hl hs y c g cm w hrow hi fun x hx => ⟨(h x hx).1, (h x hx).2.2⟩
  · have e : kindsR short ws l = false := by
      unfold kindsR
      rw [hl, hm]
      have h1 : ¬ n = m := fun h => hs (.inl h)
      cases short
      · simp [h1]
      · have h2 : ¬ n + 1 = m := fun h => hs (.inr ⟨rfl, h⟩)
        simp [h1, h2]
    rw [e]
    refine (kinds_no short n m hn hm3 (fun h => hs (.inl h)) (fun h h2 => hs (.inr ⟨h, h2⟩)) y c g cm w).mono ?_
    rintro e w' ⟨he, rfl⟩
    exact ⟨he, Below.refl _ _⟩
theorem ints_one (w : World) (a : Int) (t : TypeId) : IntRow (w.alloc (.cells #[.int .i64 a] t)) w.heap.size [a] := by
  intro j u hj
  have h := heap_alloc_new w (.cells #[.int .i64 a] t)
  match j, hj with
  | 0, hj => cases hj; unfold World.cell?; rw [h]; rfl
theorem ints_two (w : World) (a b : Int) (t : TypeId) : IntRow (w.alloc (.cells #[.int .i64 a, .int .i64 b] t)) w.heap.size [a, b] := by
  intro j u hj
  have h := heap_alloc_new w (.cells #[.int .i64 a, .int .i64 b] t)
  match j, hj with
  | 0, hj => cases hj; unfold World.cell?; rw [h]; rfl
  | 1, hj => cases hj; unfold World.cell?; rw [h]; rfl
theorem ints_three (w : World) (a b c : Int) (t : TypeId) : IntRow (w.alloc (.cells #[.int .i64 a, .int .i64 b, .int .i64 c] t)) w.heap.size [a, b, c] := by
  intro j u hj
  have h := heap_alloc_new w (.cells #[.int .i64 a, .int .i64 b, .int .i64 c] t)
  match j, hj with
  | 0, hj => cases hj; unfold World.cell?; rw [h]; rfl
  | 1, hj => cases hj; unfold World.cell?; rw [h]; rfl
  | 2, hj => cases hj; unfold World.cell?; rw [h]; rfl

section
variable (ok : Nat → Prop) (w0 : World) (n : List UInt8) (kids : List Nd) (p : Int) (hw : wtL kids + n.length < 2 ^ 40) (hG : Gl w0) (h : KidsOk ok w0 kids)
set_option maxHeartbeats 4000000 in
set_option maxRecDepth 100000 in
include hw h in
theorem ex11_any : OneQ 147 [] ok exR w0 (.mk 11 n kids p) := by
  intro v w1 hb hv
  obtain ⟨y, c, rfl, hrow⟩ := hv
  have hlen := len_wtL kids
  have hA : Below w1.heap.size w1 (w1.alloc (ndO 11 n y kids.length c p)) := (Below.refl _ _).alloc (Nat.le_refl _) _
  have e1 := enters_of Tryz.func147 (by kernel_rfl) rfl
  have hK := (h.below hb).below hA
  have c1 := all_any 147 e1 ok exR kids kids.length rfl (by omega) y c _ (hrow.below hA) (fun x hx => (hK x hx).1)
  rw [← exsR_all] at c1
  have HA := Lib.hid hA
  show Calls _ _ _ _ (Yes (n.isEmpty && exsR kids) w1)
  simp only [List.append_toArray, List.cons_append, List.nil_append]
  unfold ndO at c1
  obtain ⟨B1, hB1⟩ : ∃ B, exsR kids = B := ⟨_, rfl⟩
  rw [hB1] at c1 ⊢
  clear h hrow hB1 hb hA hK hlen hw
  by_cases hn : n = []
  · subst hn
    go_enter Tryz.func147, Tryz.ntmps147
    go_wp2_with fail
    refine c1.mono ?_
    clear c1
    rintro e w2 ⟨rfl, hb2⟩
    go_wp2_with fail
    go_ret
    exact ⟨by simp, tr HA.out hb2⟩
  · have e : n.isEmpty = false := by simpa using hn
    rw [e, Bool.false_and]
    have Q : (n == []) = false := beq_eq_false_iff_ne.2 hn
    have Q2 : (n != []) = true := by rw [bne_iff_ne]; exact hn
    clear c1
    go_enter Tryz.func147, Tryz.ntmps147
    go_wp2_with fail
    go_ret
    exact ⟨rfl, HA.out⟩
set_option maxHeartbeats 4000000 in
set_option maxRecDepth 100000 in
include hw h in
theorem ex14_any : OneQ 147 [] ok exR w0 (.mk 14 n kids p) := by
  intro v w1 hb hv
  obtain ⟨y, c, rfl, hrow⟩ := hv
  have hlen := len_wtL kids
  have hA : Below w1.heap.size w1 (w1.alloc (ndO 14 n y kids.length c p)) := (Below.refl _ _).alloc (Nat.le_refl _) _
  have hI : Below (w1.alloc (ndO 14 n y kids.length c p)).heap.size (w1.alloc (ndO 14 n y kids.length c p)) ((w1.alloc (ndO 14 n y kids.length c p)).alloc (.cells #[.int .i64 (-1), .int .i64 (-1)] 3)) := (Below.refl _ _).alloc (Nat.le_refl _) _
  have c1 := kinds_all ok false [-1, -1] 2 rfl (by omega) kids kids.length rfl (by omega) y c _ 2 _ ((hrow.below hA).below hI) (ints_two _ (-1) (-1) 3) (((h.below hb).below hA).below hI)
  rw [World.size_alloc] at c1
  have HA := Lib.hid (tr hA hI)
  have hE : exR (.mk 14 n kids p) = (n.isEmpty && kindsR false [-1, -1] kids) := by
    rw [exR_eq, kindsR_false, shR_m2]
    simp [Bool.and_assoc]
  rw [hE]
  show Calls _ _ _ _ (Yes _ w1)
  simp only [List.append_toArray, List.cons_append, List.nil_append]
  unfold ndO at c1
  obtain ⟨B1, hB1⟩ : ∃ B, kindsR false [-1, -1] kids = B := ⟨_, rfl⟩
  rw [hB1] at c1 ⊢
  have HA0 := Lib.hid hA
  clear h hrow hB1 hb hA hI hlen hw hE
  by_cases hn : n = []
  · subst hn
    go_enter Tryz.func147, Tryz.ntmps147
    go_wp2_with fail
    refine c1.mono ?_
    clear c1
    rintro e w2 ⟨rfl, hb2⟩
    go_wp2_with fail
    go_ret
    exact ⟨by simp, tr HA.out hb2⟩
  · have e : n.isEmpty = false := by simpa using hn
    rw [e, Bool.false_and]
    have Q : (n == []) = false := beq_eq_false_iff_ne.2 hn
    have Q2 : (n != []) = true := by rw [bne_iff_ne]; exact hn
    clear c1
    go_enter Tryz.func147, Tryz.ntmps147
    go_wp2_with fail
    go_ret
    exact ⟨rfl, HA0.out⟩
set_option maxHeartbeats 4000000 in
set_option maxRecDepth 100000 in
include hw h in
theorem ex15_any : OneQ 147 [] ok exR w0 (.mk 15 n kids p) := by
  intro v w1 hb hv
  obtain ⟨y, c, rfl, hrow⟩ := hv
  have hlen := len_wtL kids
  have hA : Below w1.heap.size w1 (w1.alloc (ndO 15 n y kids.length c p)) := (Below.refl _ _).alloc (Nat.le_refl _) _
  have hI : Below (w1.alloc (ndO 15 n y kids.length c p)).heap.size (w1.alloc (ndO 15 n y kids.length c p)) ((w1.alloc (ndO 15 n y kids.length c p)).alloc (.cells #[.int .i64 (-1), .int .i64 (-1), .int .i64 (-1)] 3)) := (Below.refl _ _).alloc (Nat.le_refl _) _
  have c1 := kinds_all ok false [-1, -1, -1] 3 rfl (by omega) kids kids.length rfl (by omega) y c _ 3 _ ((hrow.below hA).below hI) (ints_three _ (-1) (-1) (-1) 3) (((h.below hb).below hA).below hI)
  rw [World.size_alloc] at c1
  have HA := Lib.hid (tr hA hI)
  have hE : exR (.mk 15 n kids p) = (n.isEmpty && kindsR false [-1, -1, -1] kids) := by
    rw [exR_eq, kindsR_false, shR_m3]
    simp [Bool.and_assoc]
  rw [hE]
  show Calls _ _ _ _ (Yes _ w1)
  simp only [List.append_toArray, List.cons_append, List.nil_append]
  unfold ndO at c1
  obtain ⟨B1, hB1⟩ : ∃ B, kindsR false [-1, -1, -1] kids = B := ⟨_, rfl⟩
  rw [hB1] at c1 ⊢
  have HA0 := Lib.hid hA
  clear h hrow hB1 hb hA hI hlen hw hE
  by_cases hn : n = []
  · subst hn
    go_enter Tryz.func147, Tryz.ntmps147
    go_wp2_with fail
    refine c1.mono ?_
    clear c1
    rintro e w2 ⟨rfl, hb2⟩
    go_wp2_with fail
    go_ret
    exact ⟨by simp, tr HA.out hb2⟩
  · have e : n.isEmpty = false := by simpa using hn
    rw [e, Bool.false_and]
    have Q : (n == []) = false := beq_eq_false_iff_ne.2 hn
    have Q2 : (n != []) = true := by rw [bne_iff_ne]; exact hn
    clear c1
    go_enter Tryz.func147, Tryz.ntmps147
    go_wp2_with fail
    go_ret
    exact ⟨rfl, HA0.out⟩
set_option maxHeartbeats 4000000 in
set_option maxRecDepth 100000 in
include hw h hG in
theorem ex13_any : OneQ 147 [] ok exR w0 (.mk 13 n kids p) := by
  intro v w1 hb hv
  obtain ⟨y, c, rfl, hrow⟩ := hv
  have hlen := len_wtL kids
  have hA : Below w1.heap.size w1 (w1.alloc (ndO 13 n y kids.length c p)) := (Below.refl _ _).alloc (Nat.le_refl _) _
  have c0 := plain_any n _ (by omega) ((hG.below hb).below hA)
  have C1 : Hid (∀ w2, Below (w1.alloc (ndO 13 n y kids.length c p)).heap.size (w1.alloc (ndO 13 n y kids.length c p)) w2 → Calls Tryz.prog 93 #[.slice y kids.length c, .bool false, .slice (some ⟨w2.heap.size, 0, none⟩) 1 1] (w2.alloc (.cells #[.int .i64 8] 3)) (Yes (kindsR false [8] kids) (w2.alloc (.cells #[.int .i64 8] 3)))) := fun w2 hb2 =>
    kinds_all ok false [8] 1 rfl (by omega) kids kids.length rfl (by omega) y c _ 1 _ (((hrow.below hA).below hb2).below ((Below.refl _ _).alloc (Nat.le_refl _) _)) (ints_one _ 8 3) ((((h.below hb).below hA).below hb2).below ((Below.refl _ _).alloc (Nat.le_refl _) _))
  have HA := Lib.hid hA
  have hE : exR (.mk 13 n kids p) = (plainR n && kindsR false [8] kids) := by
    rw [exR_eq, kindsR_false]
    rfl
  rw [hE]
  show Calls _ _ _ _ (Yes _ w1)
  simp only [List.append_toArray, List.cons_append, List.nil_append]
  unfold ndO at c0
  clear h hrow hb hA hlen hw hE hG
  have hz : ∀ o, w1.heap.size < (w1.alloc o).heap.size := fun o => by rw [World.size_alloc]; omega
  cases hP : plainR n
  · rw [hP] at c0
    rw [Bool.false_and]
    clear C1 hP
    go_enter Tryz.func147, Tryz.ntmps147
    go_wp2_with fail
    refine c0.mono ?_
    clear c0
    rintro e w2 ⟨rfl, hb2⟩
    go_wp2_with fail
    go_ret
    exact ⟨rfl, tr HA.out hb2⟩
  · rw [hP] at c0
    rw [Bool.true_and]
    clear hP
    obtain ⟨B1, hB1⟩ : ∃ B, kindsR false [8] kids = B := ⟨_, rfl⟩
    rw [hB1] at C1 ⊢
    clear hB1
    have hbx : (w1.alloc (.cells #[.int .i64 13, .string ⟨n.toArray⟩, .slice y kids.length c, .int .i64 p] 53)).cell? ⟨w1.heap.size, 2, none⟩ = some (.slice y kids.length c) := (Box4.new w1 _ _ _ _).facts.2.2.1
    have HBX := Lib.hid hbx
    clear hbx
    go_enter Tryz.func147, Tryz.ntmps147
    go_wp2_with fail
    refine c0.mono ?_
    clear c0
    rintro e w2 ⟨rfl, hb2⟩
    have x2 := (hb2.cell (p := ⟨w1.heap.size, 2, none⟩) (hz _)).trans HBX.out
    go_wp2_with fail
    refine (C1.out w2 hb2).mono ?_
    rintro e w3 ⟨rfl, hb3⟩
    go_wp2_with fail
    go_ret
    exact ⟨rfl, tr (tr HA.out hb2) (tr ((Below.refl _ _).alloc (Nat.le_refl _) _) hb3)⟩
set_option maxHeartbeats 4000000 in
set_option maxRecDepth 100000 in
include hw hG in
theorem ex10_any : OneQ 147 [] ok exR w0 (.mk 10 n kids p) := by
  intro v w1 hb hv
  obtain ⟨y, c, rfl, hrow⟩ := hv
  generalize c.val = c
  have hlen := len_wtL kids
  have hA : Below w1.heap.size w1 (w1.alloc (ndO 10 n y kids.length c p)) := (Below.refl _ _).alloc (Nat.le_refl _) _
  have c0 := plain_any n _ (by omega) ((hG.below hb).below hA)
  have hE : exR (.mk 10 n kids p) = (plainR n && decide (kids.length = 0)) := by
    rw [exR_eq]
    cases kids <;> simp
  rw [hE]
  show Calls _ _ _ _ (Yes _ w1)
  simp only [List.append_toArray, List.cons_append, List.nil_append]
  unfold ndO at c0
  obtain ⟨m, hm⟩ : ∃ m, kids.length = m := ⟨_, rfl⟩
  rw [hm] at c0 hlen hA ⊢
  have HA := Lib.hid hA
  clear hrow hb hA hw hE hG hm
  have hz : ∀ o, w1.heap.size < (w1.alloc o).heap.size := fun o => by rw [World.size_alloc]; omega
  have hbx : (w1.alloc (.cells #[.int .i64 10, .string ⟨n.toArray⟩, .slice y m c, .int .i64 p] 53)).cell? ⟨w1.heap.size, 2, none⟩ = some (.slice y m c) := (Box4.new w1 _ _ _ _).facts.2.2.1
  have HBX := Lib.hid hbx
  clear hbx
  cases hP : plainR n
  · rw [hP] at c0
    rw [Bool.false_and]
    clear hP
    go_enter Tryz.func147, Tryz.ntmps147
    go_wp2_with fail
    refine c0.mono ?_
    clear c0
    rintro e w2 ⟨rfl, hb2⟩
    go_wp2_with fail
    go_ret
    exact ⟨rfl, tr HA.out hb2⟩
  · rw [hP] at c0
    rw [Bool.true_and]
    clear hP
    have Q : ((m : Int) == 0) = decide (m = 0) := by
      by_cases h : m = 0
      · subst h; rfl
      · have : ((m : Int) == 0) = false := beq_eq_false_iff_ne.2 (by omega)
        rw [this]
        simp [h]
    cases hB : decide (m = 0)
    · rw [hB] at Q
      clear hB
      go_enter Tryz.func147, Tryz.ntmps147
      go_wp2_with fail
      refine c0.mono ?_
      clear c0
      rintro e w2 ⟨rfl, hb2⟩
      have x2 := (hb2.cell (p := ⟨w1.heap.size, 2, none⟩) (hz _)).trans HBX.out
      go_wp2_with fail
      go_ret
      exact ⟨rfl, tr HA.out hb2⟩
    · have hm0 : m = 0 := by simpa using hB
      subst hm0
      clear hB Q
      go_enter Tryz.func147, Tryz.ntmps147
      go_wp2_with fail
      refine c0.mono ?_
      clear c0
      rintro e w2 ⟨rfl, hb2⟩
      have x2 := (hb2.cell (p := ⟨w1.heap.size, 2, none⟩) (hz _)).trans HBX.out
      go_wp2_with fail
      go_ret
      exact ⟨rfl, tr HA.out hb2⟩
end
end Go.Proofs.YtpbkeamjdolpgaaGreatDoor
namespace Go.Proofs.YtpbkeamjdolpgaaGreatDoor
open Go.RowKit Go.Lib Go.Shelf Go.Sort

section
variable (ok : Nat → Prop) (w0 : World) (n : List UInt8) (kids : List Nd) (p : Int) (hw : wtL kids + n.length < 2 ^ 40) (hG : Gl w0) (h : KidsOk ok w0 kids)
set_option maxHeartbeats 4000000 in
set_option maxRecDepth 100000 in
include h in
theorem ex12a_any (x : Nd) (hx : kids = [x]) : OneQ 147 [] ok exR w0 (.mk 12 n kids p) := by
  subst hx
  intro v w1 hb hv
  obtain ⟨y, c, rfl, hrow⟩ := hv
  have hA : Below w1.heap.size w1 (w1.alloc (ndO 12 n y 1 c p)) := (Below.refl _ _).alloc (Nat.le_refl _) _
  have hr2 := hrow.below hA
  obtain ⟨B, o, rfl, hat, _⟩ := hr2
  obtain ⟨k', nm, z, kk, cc, p', rfl, x0, x1, x2, x3, hk⟩ := hat.val
  have c1 := (h (.mk k' nm kk p') (by simp)).1 (.agg #[.int .i64 k', .string ⟨nm.toArray⟩, .slice z kk.length cc, .int .i64 p']) _ (tr hb hA) ⟨z, cc, rfl, hk⟩
  have HA := Lib.hid hA
  have hE : exR (.mk 12 n [.mk k' nm kk p'] p) = ((decide (n = [45]) || decide (n = [33])) && exR (.mk k' nm kk p')) := by
    rw [exR_eq]
    show (((decide (n = [45]) || decide (n = [33])) && (exR (.mk k' nm kk p') && true))) = _
    rw [Bool.and_true]
  rw [hE]
  show Calls _ _ _ _ (Yes _ w1)
  simp only [List.append_toArray, List.cons_append, List.nil_append, List.length_singleton] at c1 ⊢
  obtain ⟨B1, hB1⟩ : ∃ B, exR (.mk k' nm kk p') = B := ⟨_, rfl⟩
  rw [hB1] at c1 ⊢
  unfold ndO at c1 x0 x1 x2 x3
  clear h hrow hB1 hb hA hE hat hk
  by_cases h1 : n = [45]
  · subst h1
    go_enter Tryz.func147, Tryz.ntmps147
    go_wp2_with fail
    refine c1.mono ?_
    clear c1
    rintro e w2 ⟨rfl, hb2⟩
    go_wp2_with fail
    go_ret
    exact ⟨by simp, tr HA.out hb2⟩
  · have Q1 : (n == [45]) = false := beq_eq_false_iff_ne.2 h1
    by_cases h2 : n = [33]
    · subst h2
      go_enter Tryz.func147, Tryz.ntmps147
      go_wp2_with fail
      refine c1.mono ?_
      clear c1
      rintro e w2 ⟨rfl, hb2⟩
      go_wp2_with fail
      go_ret
      exact ⟨by simp, tr HA.out hb2⟩
    · have Q2 : (n == [33]) = false := beq_eq_false_iff_ne.2 h2
      have e : ((decide (n = [45]) || decide (n = [33])) && B1) = false := by simp [h1, h2]
      rw [e]
      clear c1 h1 h2 e
      go_enter Tryz.func147, Tryz.ntmps147
      go_wp2_with fail
      go_ret
      exact ⟨rfl, HA.out⟩
set_option maxHeartbeats 4000000 in
set_option maxRecDepth 100000 in
include hw h in
theorem ex12b_any (hx : kids.length ≠ 1) : OneQ 147 [] ok exR w0 (.mk 12 n kids p) := by
  intro v w1 hb hv
  obtain ⟨y, c, rfl, hrow⟩ := hv
  have hlen := len_wtL kids
  have hA : Below w1.heap.size w1 (w1.alloc (ndO 12 n y kids.length c p)) := (Below.refl _ _).alloc (Nat.le_refl _) _
  have c0 := levelC_any n (w1.alloc (ndO 12 n y kids.length c p))
  have C1 : Hid (∀ w2, Below (w1.alloc (ndO 12 n y kids.length c p)).heap.size (w1.alloc (ndO 12 n y kids.length c p)) w2 → Calls Tryz.prog 93 #[.slice y kids.length c, .bool false, .slice (some ⟨w2.heap.size, 0, none⟩) 2 2] (w2.alloc (.cells #[.int .i64 (-1), .int .i64 (-1)] 3)) (Yes (kindsR false [-1, -1] kids) (w2.alloc (.cells #[.int .i64 (-1), .int .i64 (-1)] 3)))) := fun w2 hb2 =>
    kinds_all ok false [-1, -1] 2 rfl (by omega) kids kids.length rfl (by omega) y c _ 2 _ (((hrow.below hA).below hb2).below ((Below.refl _ _).alloc (Nat.le_refl _) _)) (ints_two _ (-1) (-1) 3) ((((h.below hb).below hA).below hb2).below ((Below.refl _ _).alloc (Nat.le_refl _) _))
  have hE : exR (.mk 12 n kids p) = (decide (0 < levelS n) && kindsR false [-1, -1] kids) := by
    rw [exR_eq, kindsR_false, shR_m2]
    simp [hx, Bool.and_assoc]
  rw [hE]
  show Calls _ _ _ _ (Yes _ w1)
  simp only [List.append_toArray, List.cons_append, List.nil_append]
  have Qx : ((kids.length : Int) == 1) = false := beq_eq_false_iff_ne.2 (by omega)
  have HA := Lib.hid hA
  have HX := Lib.hid hx
  obtain ⟨L, hL⟩ : ∃ L, levelS n = L := ⟨_, rfl⟩
  rw [hL] at c0 ⊢
  unfold ndO at c0
  clear h hrow hb hA hw hE hL hx
  have hz : ∀ o, w1.heap.size < (w1.alloc o).heap.size := fun o => by rw [World.size_alloc]; omega
  have hbx : (w1.alloc (.cells #[.int .i64 12, .string ⟨n.toArray⟩, .slice y kids.length c, .int .i64 p] 53)).cell? ⟨w1.heap.size, 2, none⟩ = some (.slice y kids.length c) := (Box4.new w1 _ _ _ _).facts.2.2.1
  have HBX := Lib.hid hbx
  clear hbx
  by_cases h0 : 0 < L
  · have e : decide (0 < L) = true := by simpa using h0
    rw [e, Bool.true_and]
    obtain ⟨B1, hB1⟩ : ∃ B, kindsR false [-1, -1] kids = B := ⟨_, rfl⟩
    rw [hB1] at C1 ⊢
    clear hB1 e
    have Q0 : decide ((L : Int) > 0) = true := by simp; omega
    have Q1 : (0 : Int) < (L : Int) := by omega
    go_enter Tryz.func147, Tryz.ntmps147
    go_wp2_with fail
    refine c0.mono ?_
    clear c0
    rintro e w2 ⟨rfl, hb2⟩
    have x2 := (hb2.cell (p := ⟨w1.heap.size, 2, none⟩) (hz _)).trans HBX.out
    go_wp2_with fail
    refine (C1.out w2 hb2).mono ?_
    rintro e w3 ⟨rfl, hb3⟩
    go_wp2_with fail
    go_ret
    exact ⟨rfl, tr (tr HA.out hb2) (tr ((Below.refl _ _).alloc (Nat.le_refl _) _) hb3)⟩
  · have e : decide (0 < L) = false := by simpa using h0
    rw [e, Bool.false_and]
    have Q0 : decide ((L : Int) > 0) = false := by simp; omega
    have Q1 : ¬ (0 : Int) < (L : Int) := by omega
    clear e C1 h0
    go_enter Tryz.func147, Tryz.ntmps147
    go_wp2_with fail
    refine c0.mono ?_
    clear c0
    rintro e w2 ⟨rfl, hb2⟩
    go_wp2_with fail
    go_ret
    exact ⟨rfl, tr HA.out hb2⟩
set_option maxHeartbeats 4000000 in
set_option maxRecDepth 100000 in
theorem exno_any (k : Int) (hk : k < 9 ∨ 15 < k) : OneQ 147 [] ok exR w0 (.mk k n kids p) := by
  intro v w1 hb hv
  obtain ⟨y, c, rfl, hrow⟩ := hv
  have hA : Below w1.heap.size w1 (w1.alloc (ndO k n y kids.length c p)) := (Below.refl _ _).alloc (Nat.le_refl _) _
  have HA := Lib.hid hA
  have hE : exR (.mk k n kids p) = false := by
    rw [exR_eq, if_neg (by omega), if_neg (by omega), if_neg (by omega), if_neg (by omega), if_neg (by omega), if_neg (by omega), if_neg (by omega)]
  rw [hE]
  show Calls _ _ _ _ (Yes _ w1)
  simp only [List.append_toArray, List.cons_append, List.nil_append]
  have Q9 : (k == 9) = false := beq_eq_false_iff_ne.2 (by omega)
  have Q10 : (k == 10) = false := beq_eq_false_iff_ne.2 (by omega)
  have Q11 : (k == 11) = false := beq_eq_false_iff_ne.2 (by omega)
  have Q12 : (k == 12) = false := beq_eq_false_iff_ne.2 (by omega)
  have Q13 : (k == 13) = false := beq_eq_false_iff_ne.2 (by omega)
  have Q14 : (k == 14) = false := beq_eq_false_iff_ne.2 (by omega)
  have Q15 : (k == 15) = false := beq_eq_false_iff_ne.2 (by omega)
  clear hrow hb hA hE hk
  go_enter Tryz.func147, Tryz.ntmps147
  go_wp2_with fail
  go_ret
  exact ⟨rfl, HA.out⟩
set_option maxHeartbeats 8000000 in
set_option maxRecDepth 100000 in
include hw hG in
theorem ex9_any : OneQ 147 [] ok exR w0 (.mk 9 n kids p) := by
  intro v w1 hb hv
  obtain ⟨y, c, rfl, hrow⟩ := hv
  generalize c.val = c
  have hlen := len_wtL kids
  have hE : exR (.mk 9 n kids p) = (numR n && decide (kids.length = 0)) := by
    rw [exR_eq]
    cases kids <;> simp
  rw [hE]
  show Calls _ _ _ _ (Yes _ w1)
  simp only [List.append_toArray, List.cons_append, List.nil_append]
  obtain ⟨m, hm⟩ : ∃ m, kids.length = m := ⟨_, rfl⟩
  rw [hm] at hlen ⊢
  have hA : Below w1.heap.size w1 (w1.alloc (ndO 9 n y m c p)) := (Below.refl _ _).alloc (Nat.le_refl _) _
  have c0 := tokens_all ⟨n.toArray⟩ _ ((hG.below hb).below hA)
  have en : (⟨n.toArray⟩ : ByteArray).data.toList = n := rfl
  rw [en] at c0
  have HA := Lib.hid hA
  unfold ndO at c0
  have HM : Hid (m < 2 ^ 40) := by
    show m < 2 ^ 40
    omega
  clear hrow hb hA hw hE hG hm en hlen
  have hz : ∀ o, w1.heap.size < (w1.alloc o).heap.size := fun o => by rw [World.size_alloc]; omega
  have hf := (Box4.new w1 (.int .i64 9) (.string ⟨n.toArray⟩) (.slice y m c) (.int .i64 p)).facts
  have HX : Hid (∀ w2, Below (w1.alloc (.cells #[.int .i64 9, .string ⟨n.toArray⟩, .slice y m c, .int .i64 p] 53)).heap.size (w1.alloc (.cells #[.int .i64 9, .string ⟨n.toArray⟩, .slice y m c, .int .i64 p] 53)) w2 → w2.cell? ⟨w1.heap.size, 1, none⟩ = some (.string ⟨n.toArray⟩) ∧ w2.cell? ⟨w1.heap.size, 2, none⟩ = some (.slice y m c)) := fun w2 hb2 =>
    ⟨(hb2.cell (p := ⟨w1.heap.size, 1, none⟩) (hz _)).trans hf.2.1, (hb2.cell (p := ⟨w1.heap.size, 2, none⟩) (hz _)).trans hf.2.2.1⟩
  clear hf hz
  cases hT : tokensL n with
  | error f =>
    have hN : numR n = false := by unfold numR; rw [hT]
    rw [hT] at c0
    rw [hN, Bool.false_and]
    clear hT hN
    go_enter Tryz.func147, Tryz.ntmps147
    go_wp2_with fail
    refine c0.mono ?_
    clear c0
    rintro e w2 ⟨hb2, b, hb3, rfl, hb4⟩
    obtain ⟨x1, x2⟩ := HX.out w2 hb2
    clear hb4 HX
    go_wp2_with fail
    go_quiet (fail)
    go_wp2_with fail
    go_ret
    exact ⟨rfl, bdn (tr HA.out hb2) _⟩
  | ok ts =>
    rw [hT] at c0
    have hlenT := tokensL_len n ts hT
    by_cases hl1 : ts.length = 1
    · obtain ⟨t, rfl⟩ := List.length_eq_one_iff.1 hl1
      have hN : numR n = (decide (t.1 = 1) && decide (t.2.1 = n)) := by unfold numR; rw [hT]
      rw [hN]
      clear hT hN hl1 hlenT
      have K : ∀ b : Bool, b = (decide (t.1 = 1) && decide (t.2.1 = n) && decide (m = 0)) → (((t.1 : Int) == 1) = false ∧ b = false) ∨ (((t.1 : Int) == 1) = true ∧ (t.2.1 == n) = false ∧ b = false) ∨ (((t.1 : Int) == 1) = true ∧ (t.2.1 == n) = true ∧ ((m : Int) == 0) = false ∧ b = false) ∨ (((t.1 : Int) == 1) = true ∧ (t.2.1 == n) = true ∧ ((m : Int) == 0) = true ∧ b = true) := by
        intro b hb
        by_cases h1 : t.1 = 1
        · have e1 : ((t.1 : Int) == 1) = true := by rw [h1]; rfl
          by_cases h2 : t.2.1 = n
          · have e2 : (t.2.1 == n) = true := by simpa using h2
            by_cases h3 : m = 0
            · exact .inr (.inr (.inr ⟨e1, e2, by rw [h3]; rfl, by rw [hb]; simp [h1, h2, h3]⟩))
            · exact .inr (.inr (.inl ⟨e1, e2, beq_eq_false_iff_ne.2 (by omega), by rw [hb]; simp [h3]⟩))
          · exact .inr (.inl ⟨e1, beq_eq_false_iff_ne.2 h2, by rw [hb]; simp [h2]⟩)
        · exact .inl ⟨beq_eq_false_iff_ne.2 (by omega), by rw [hb]; simp [h1]⟩
      obtain ⟨b, hb⟩ : ∃ b, b = (decide (t.1 = 1) && decide (t.2.1 = n) && decide (m = 0)) := ⟨_, rfl⟩
      have K2 := K b hb
      rw [← hb]
      obtain ⟨t0, t1, t2⟩ := t
      dsimp only at K2
      clear K hb
      rcases K2 with ⟨q1, rfl⟩ | ⟨q1, q2, rfl⟩ | ⟨q1, q2, q3, rfl⟩ | ⟨q1, q2, q3, rfl⟩
      all_goals (
        go_enter Tryz.func147, Tryz.ntmps147
        go_wp2_with fail
        refine c0.mono ?_
        clear c0
        rintro e w2 ⟨hb2, v2, rfl, hown⟩
        obtain ⟨x1, x2⟩ := HX.out w2 hb2
        obtain ⟨g, cap, rfl, _, _, hc⟩ := own_some hown (by simp)
        have y0 : w2.cell? ⟨g, 0, none⟩ = some (.int .i64 t0) := hc 0 (by simp)
        have y1 : w2.cell? ⟨g, 1, none⟩ = some (.string ⟨t1.toArray⟩) := hc 1 (by simp)
        simp only [List.length_singleton]
        clear hown HX hc
        go_wp2_with fail
        go_quiet (fail)
        go_wp2_with fail
        go_ret
        exact ⟨rfl, bdn (tr HA.out hb2) _⟩)
    · have hN : numR n = false := by
        unfold numR
        rw [hT]
        match ts, hl1 with
        | [], _ => rfl
        | [x], h => exact absurd rfl h
        | _ :: _ :: _, _ => rfl
      rw [hN, Bool.false_and]
      have Q : ((ts.length : Int) == 1) = false := beq_eq_false_iff_ne.2 (by omega)
      obtain ⟨nt, hnt⟩ : ∃ nt, ts.length = nt := ⟨_, rfl⟩
      rw [hnt] at Q
      have HNT := Lib.hid hnt
      clear hT hN hl1 hlenT hnt
      go_enter Tryz.func147, Tryz.ntmps147
      go_wp2_with fail
      refine c0.mono ?_
      clear c0
      rintro e w2 ⟨hb2, v2, rfl, hown⟩
      obtain ⟨x1, x2⟩ := HX.out w2 hb2
      obtain ⟨xa, xc, rfl⟩ := own_shape hown
      rw [HNT.out]
      clear hown HX
      go_wp2_with fail
      go_quiet (fail)
      go_wp2_with fail
      go_ret
      exact ⟨rfl, bdn (tr HA.out hb2) _⟩
end
end Go.Proofs.YtpbkeamjdolpgaaGreatDoor
namespace Go.Proofs.YtpbkeamjdolpgaaGreatDoor
open Go.RowKit Go.Lib Go.Shelf

set_option maxHeartbeats 4000000 in
set_option maxRecDepth 100000 in
theorem atom_any (C : Ctx) (ex : Nat → Res Nd) (hx : OneT C 109 ex) (f : Nat) (hf : f ≤ 8192) : OneT C 194 (atomO C.ts C.s.size ex f) := by
  intro w p h _ hne
  have hmf : ∀ (fn : Fn) (first cap : Array Value) (w : World), (Instr.makeFunc fn first cap).run Tryz.prog w = .ok (.func fn first cap) w := fun _ _ _ _ => rfl
  have F0 := fld0
  have F1 := fld1
  have F2 := fld2
  have hpb := h.lt
  have eg := enters_of Tryz.func109 (by kernel_rfl) rfl
  obtain ⟨pl, hpl⟩ : ∃ pl, placeT C.ts C.s.size p = pl := ⟨_, rfl⟩
  obtain ⟨kd, hkd⟩ : ∃ kd, kindT C.ts p = kd := ⟨_, rfl⟩
  obtain ⟨tx, htx⟩ : ∃ tx, textT C.ts p = tx := ⟨_, rfl⟩
  have hsz0 := World.size_alloc w zNode
  have hA : Ow C.pb w (w.alloc zNode) := (Ow.refl _ _).alloc _
  have hsA : PSt C (w.alloc zNode) p := h.below ((Below.refl _ _).alloc (Nat.le_refl _) _)
  have hne0 : w.heap.size ≠ C.pb := by omega
  have H0 := Lib.hid h
  have HA := Lib.hid hA
  obtain ⟨R, hR⟩ : ∃ R, atomO C.ts C.s.size ex f p = R := ⟨_, rfl⟩
  have EA : Hid (isT C.ts p [40] = true → R = (ex (p + 1)).bind fun x q => (takeP C.ts C.s.size [41] q).bind fun _ e => .ok x e) := fun h1 => by rw [← hR]; unfold atomO; rw [h1]; rfl
  have EB : Hid (isT C.ts p [40] = false → isT C.ts p [91] = true → R = (rowG C.ts C.s.size ex f [93] (p + 1)).bind fun l q => .ok (.mk 11 [] l pl) q) := fun h1 h2 => by rw [← hR]; unfold atomO; rw [h1, h2, hpl]; rfl
  have EC : Hid (isT C.ts p [40] = false → isT C.ts p [91] = false → kd = 1 → R = .ok (.mk 9 tx [] pl) (p + 1)) := fun h1 h2 h3 => by rw [← hR]; unfold atomO; rw [h1, h2, hpl, hkd, h3, htx]; rfl
  have ED : Hid (isT C.ts p [40] = false → isT C.ts p [91] = false → kd ≠ 1 → R = (nameP C.ts p).bind fun s q => if isT C.ts q [40] then (argsO C.ts C.s.size ex f q).bind fun a r => .ok (.mk 13 s [a] pl) r else .ok (.mk 10 s [] pl) q) := fun h1 h2 h3 => by rw [← hR]; unfold atomO; rw [h1, h2, hpl, hkd]; simp only [Bool.false_eq_true, if_false, if_neg h3]
  rw [hR] at hne ⊢
  have hZ : Box4 (w.alloc zNode) w.heap.size (.int .i64 0) (.string ⟨#[]⟩) (.slice none 0 0) (.int .i64 0) := Box4.new w _ _ _ _
  have c0 := token_x C p _ hsA _ (fun w1 ho => hZ.x ho hne0)
  rw [hpl, hkd, htx] at c0
  have HNE := Lib.hid hne
  have HHX := Lib.hid hx
  have HPL := Lib.hid hpl
  have HKD := Lib.hid hkd
  have HTX := Lib.hid htx
  clear hR hne h hA hsA hx hZ hpl hkd htx
  go_enter Tryz.func194, Tryz.ntmps194
  go_wp2_with fail
  refine c0.mono ?_
  clear c0
  rintro e w1 ⟨rfl, hs1, ho1, ⟨z0, z1, z2, z3, zf⟩, HZ⟩
  have hlt := ho1.size
  rw [hsz0] at hlt
  go_wp2_with fail
  have hne1 : w1.heap.size ≠ C.pb := by omega
  have HZ2 := HZ.out.alloc (.cells #[.int .i64 0, .string ⟨#[]⟩, .slice none 0 0, .int .i64 pl] 53)
  have HN2 := Box4.new w1 (.int .i64 0) (.string ⟨#[]⟩) (.slice none 0 0) (.int .i64 pl)
  have hs2 := hs1.below ((Below.refl _ _).alloc (Nat.le_refl _) (.cells #[.int .i64 0, .string ⟨#[]⟩, .slice none 0 0, .int .i64 pl] 53))
  have HO2 := Lib.hid ((HA.out.trans ho1).alloc (.cells #[.int .i64 0, .string ⟨#[]⟩, .slice none 0 0, .int .i64 pl] 53))
  have c1 := skip_x C p [40] _ hs2 _ (fun w' ho => And.intro (HZ2.x ho hne0) (HN2.x ho hne1))
  clear hs2 HZ2 HN2 HZ z0 z1 z2 z3 zf hs1 ho1
  refine c1.mono ?_
  clear c1
  rintro e w3 (⟨hB1, rfl, hs3, ho3, ⟨⟨z0, z1, z2, z3, zf⟩, HZ⟩, ⟨n0, n1, n2, n3, nf⟩, HN⟩ | ⟨hB1, rfl, hs3, ho3, ⟨⟨z0, z1, z2, z3, zf⟩, HZ⟩, ⟨n0, n1, n2, n3, nf⟩, HN⟩)
  · -- something in parentheses
    have HB1 := Lib.hid hB1
    have E := Lib.hid (EA.out hB1)
    have hx0 : ex (p + 1) ≠ .out := fun e => HNE.out (by rw [E.out, e]; rfl)
    have c2 := node_x (HHX.out w3 (p + 1) hs3 trivial hx0) _ (fun w' ho => HZ.out.x ho hne0)
    have HS3 := Lib.hid hs3
    have HO3 := Lib.hid (HO2.out.trans ho3)
    have hsz3 := HO3.out.size
    have hlt3 : w.heap.size < w3.heap.size := by have := HZ.out.lt; omega
    clear hB1 hx0 hs3 ho3 n0 n1 n2 n3 nf HN HZ z0 z1 z2 z3 zf
    go_wp2_with fail
    refine c2.mono ?_
    clear c2
    rintro e w4 (⟨k, n, kids, pp, y, c, q, hr4, rfl, hk4, hs4, ho4, ⟨z0, z1, z2, z3, zf⟩, HZ⟩ | ⟨q, hr4, b, hd1, rfl, hd3, hd4⟩)
    · have HR4 := Lib.hid hr4
      have hlt4 := ho4.size
      have hne4 : w4.heap.size ≠ C.pb := by omega
      have c3 := take_x C q [41] _ (hs4.below ((Below.refl _ _).alloc (Nat.le_refl _) (.cells #[.int .i64 k, .string ⟨n.toArray⟩, .slice y kids.length c, .int .i64 pp] 53))) _
        (fun w' ho => And.intro ((HZ.out.alloc _).x ho hne0) (And.intro ((Box4.new w4 (.int .i64 k) (.string ⟨n.toArray⟩) (.slice y kids.length c) (.int .i64 pp)).x ho hne4) ((hk4.alloc _).ow ho (fun b hb => by omega))))
      have HO4 := Lib.hid ((HO3.out.trans ho4).alloc (.cells #[.int .i64 k, .string ⟨n.toArray⟩, .slice y kids.length c, .int .i64 pp] 53))
      clear hr4 hk4 hs4 ho4
      go_wp2_with fail
      refine c3.mono ?_
      clear c3
      rintro e w5 (⟨q5, hr5, rfl, hs5, ho5, ⟨⟨z0', z1', z2', z3', zf'⟩, _⟩, ⟨⟨x0, x1, x2, x3, xf⟩, _⟩, hk5⟩ | ⟨hr5, b, hd1, rfl, hd3, hd4⟩)
      · have HR5 := Lib.hid hr5
        have HK5 := Lib.hid hk5
        clear hr5 hk5
        go_wp2_with fail
        refine ret_node rfl rfl rfl (by simp [go_sem, z0']) (by simp [go_sem, z1']) (by simp [go_sem, z2']) (by simp [go_sem, z3']) (.inl ⟨k, n, kids, pp, y, c, q5, ?_, rfl, (HK5.out.set4 (fun b hb => by omega)).wide (fun b hb _ => by omega), H0.out.keep hs5 ((Kp.refl _ _).set4 (Nat.le_refl _)), (HO4.out.trans ho5).set4 (Nat.le_refl _)⟩)
        rw [E.out, HR4.out]
        simp only [Res.bind]
        rw [HR5.out]
      · refine ⟨rfl, .inr ⟨q, ?_, b, Nat.le_trans HO4.out.size hd1, rfl, hd3, HO4.out.trans hd4⟩⟩
        rw [E.out, HR4.out]
        simp only [Res.bind]
        rw [hr5]
    · refine ⟨rfl, .inr ⟨q, ?_, b, Nat.le_trans HO3.out.size hd1, rfl, hd3, HO3.out.trans hd4⟩⟩
      rw [E.out, hr4]
      rfl
  · have HB1 := Lib.hid hB1
    have c2 := skip_x C p [91] w3 hs3 _ (fun w' ho => And.intro (HZ.out.x ho hne0) (HN.out.x ho hne1))
    have HO3 := Lib.hid (HO2.out.trans ho3)
    have hlt3 : w1.heap.size < w3.heap.size := HN.out.lt
    clear hB1 hs3 ho3 n0 n1 n2 n3 nf HN HZ z0 z1 z2 z3 zf HO2
    go_wp2_with fail
    refine c2.mono ?_
    clear c2
    rintro e w4 (⟨hB2, rfl, hs4, ho4, ⟨⟨z0, z1, z2, z3, zf⟩, HZ⟩, ⟨n0, n1, n2, n3, nf⟩, HN⟩ | ⟨hB2, rfl, hs4, ho4, ⟨⟨z0, z1, z2, z3, zf⟩, HZ⟩, ⟨n0, n1, n2, n3, nf⟩, HN⟩)
    · -- a list
      have E := Lib.hid (EB.out HB1.out hB2)
      have hx0 : rowG C.ts C.s.size ex f [93] (p + 1) ≠ .out := fun e => HNE.out (by rw [E.out, e]; rfl)
      have c3 := row_x (row_any C 109 #[.pointer (some ⟨C.pb, 0, none⟩)] #[] (fun _ => True) (fun a b h1 h2 => trivial) eg ex (by simpa using HHX.out) f hf [93] (p + 1) w4 hs4 trivial hx0) _ (fun w' ho => And.intro (HZ.out.x ho hne0) (HN.out.x ho hne1))
      have HO4 := Lib.hid (HO3.out.trans ho4)
      have hlt4 : w1.heap.size < w4.heap.size := HN.out.lt
      clear hB2 hx0 hs4 ho4 n0 n1 n2 n3 nf HN HZ z0 z1 z2 z3 zf
      go_wp2_with fail
      refine c3.mono ?_
      clear c3
      rintro e w5 (⟨l, y, c, q, hr5, rfl, hk5, hs5, ho5, ⟨⟨z0, z1, z2, z3, zf⟩, HZ⟩, ⟨n0, n1, n2, n3, nf⟩, HN⟩ | ⟨q, hr5, b, hd1, rfl, hd3, hd4⟩)
      · have HR5 := Lib.hid hr5
        have HK5 := Lib.hid hk5
        have hneb : w.heap.size ≠ w1.heap.size := by omega
        clear hr5 hk5
        go_wp2_with fail
        refine ret_node rfl rfl rfl (by simp [go_sem, z0]) (by simp [go_sem, z1]) (by simp [go_sem, z2]) (by simp [go_sem, z3]) (.inl ⟨11, [], l, pl, y, c, q, ?_, rfl, (((HK5.out.set (fun b hb => by omega)).set (fun b hb => by omega)).set4 (fun b hb => by omega)).wide (fun b hb _ => by omega), H0.out.keep hs5 ((((Kp.refl _ _).set (by omega)).set (by omega)).set4 (Nat.le_refl _)), (((HO4.out.trans ho5).set (by omega)).set (by omega)).set4 (Nat.le_refl _)⟩)
        rw [E.out, HR5.out]
        rfl
      · refine ⟨rfl, .inr ⟨q, ?_, b, Nat.le_trans HO4.out.size hd1, rfl, hd3, HO4.out.trans hd4⟩⟩
        rw [E.out, hr5]
        rfl
    · have HB2 := Lib.hid hB2
      have c3 := token_x C p w4 hs4 _ (fun w' ho => And.intro (HZ.out.x ho hne0) (HN.out.x ho hne1))
      rw [HPL.out, HKD.out, HTX.out] at c3
      have HO4 := Lib.hid (HO3.out.trans ho4)
      have hlt4 : w1.heap.size < w4.heap.size := HN.out.lt
      clear hB2 hs4 ho4 n0 n1 n2 n3 nf HN HZ z0 z1 z2 z3 zf HO3
      go_wp2_with fail
      refine c3.mono ?_
      clear c3
      rintro e w5 ⟨rfl, hs5, ho5, ⟨⟨z0, z1, z2, z3, zf⟩, HZ⟩, ⟨n0, n1, n2, n3, nf⟩, HN⟩
      by_cases h1 : kd = 1
      · -- a number
        have E := Lib.hid (EC.out HB1.out HB2.out h1)
        have c4 := token_x C p w5 hs5 _ (fun w' ho => And.intro (HZ.out.x ho hne0) (HN.out.x ho hne1))
        rw [HPL.out, HKD.out, HTX.out] at c4
        have HO5 := Lib.hid (HO4.out.trans ho5)
        have hlt5 : w1.heap.size < w5.heap.size := HN.out.lt
        subst h1
        have hpn : p < C.ts.length := kindT_lt (by rw [HKD.out]; decide)
        have hpl' := hs5.len
        have X1 : IntKind.i64.wrap ((p : Int) + 1) = (p : Int) + 1 := IntWalk.i64_in _ (by omega)
        have HPN := Lib.hid hpn
        clear hs5 ho5 n0 n1 n2 n3 nf HN HZ z0 z1 z2 z3 zf hpn hpl'
        go_wp2_with fail
        refine c4.mono ?_
        clear c4
        rintro e w6 ⟨rfl, hs6, ho6, ⟨⟨z0, z1, z2, z3, zf⟩, HZ⟩, ⟨n0, n1, n2, n3, nf⟩, HN⟩
        obtain ⟨_, _, k2, kf⟩ := hs6.cells
        have hneb : w.heap.size ≠ w1.heap.size := by omega
        have hne1' : C.pb ≠ w1.heap.size := by omega
        have hne0' : C.pb ≠ w.heap.size := by omega
        have HS6 := Lib.hid hs6
        have HO6 := Lib.hid (HO5.out.trans ho6)
        clear hs6 ho6
        go_wp2_with fail
        refine ret_node rfl rfl rfl (by simp [go_sem, z0]) (by simp [go_sem, z1]) (by simp [go_sem, z2]) (by simp [go_sem, z3]) (.inl ⟨9, tx, [], pl, none, ⟨0, Nat.le_refl _⟩, p + 1, E.out, rfl, trivial, H0.out.keep ((H0.out.keep HS6.out (((Kp.refl _ _).set (by omega)).set (by omega))).step (q := p + 1) HPN.out) ((Kp.refl _ _).set4 (Nat.le_refl _)), ((((HO6.out.set (by omega)).set (by omega)).setCell (a := ⟨C.pb, 2, none⟩) (.inl rfl) _).set4 (Nat.le_refl _))⟩)
      · -- a name, perhaps a call
        have E := Lib.hid (ED.out HB1.out HB2.out h1)
        have Q : (kd == 1) = false := beq_eq_false_iff_ne.2 h1
        have c4 := name_x C p w5 hs5 _ (fun w' ho => And.intro (HZ.out.x ho hne0) (HN.out.x ho hne1))
        rw [HTX.out] at c4
        have HO5 := Lib.hid (HO4.out.trans ho5)
        have hlt5 : w1.heap.size < w5.heap.size := HN.out.lt
        clear hs5 ho5 n0 n1 n2 n3 nf HN HZ z0 z1 z2 z3 zf h1
        go_wp2_with fail
        refine c4.mono ?_
        clear c4
        rintro e w6 (⟨q, hr6, rfl, hs6, ho6, ⟨⟨z0, z1, z2, z3, zf⟩, HZ⟩, ⟨n0, n1, n2, n3, nf⟩, HN⟩ | ⟨hr6, b, hd1, rfl, hd3, hd4⟩)
        · have HR6 := Lib.hid hr6
          have HS6 := Lib.hid hs6
          have HO6 := Lib.hid (HO5.out.trans ho6)
          have hlt6 : w1.heap.size < w6.heap.size := HN.out.lt
          have hneb : w.heap.size ≠ w1.heap.size := by omega
          clear hr6 hs6 ho6
          go_wp2_with fail
          have hs7 : PSt C ((w6.setCell ⟨w1.heap.size, 0, none⟩ (.int .i64 10)).setCell ⟨w1.heap.size, 1, none⟩ (.string ⟨tx.toArray⟩)) q := H0.out.keep HS6.out (((Kp.refl _ _).set (by omega)).set (by omega))
          have HZ7 := Box4.other (k := w1.heap.size) (o := 1) (v := .string ⟨tx.toArray⟩) (Box4.other (k := w1.heap.size) (o := 0) (v := .int .i64 10) HZ.out hneb) hneb
          have HN7 := Box4.set1 (v := .string ⟨tx.toArray⟩) (Box4.set0 (v := .int .i64 10) HN.out)
          have c5 := is_x C q [40] _ hs7 _ (fun w' ho => And.intro (HZ7.x ho hne0) (HN7.x ho hne1))
          have HO7 : Hid (Ow C.pb w ((w6.setCell ⟨w1.heap.size, 0, none⟩ (.int .i64 10)).setCell ⟨w1.heap.size, 1, none⟩ (.string ⟨tx.toArray⟩))) := Lib.hid ((HO6.out.set (by omega)).set (by omega))
          have hlt7 : w1.heap.size < ((w6.setCell ⟨w1.heap.size, 0, none⟩ (.int .i64 10)).setCell ⟨w1.heap.size, 1, none⟩ (.string ⟨tx.toArray⟩)).heap.size := HN7.lt
          have HL7 := Lib.hid hlt7
          clear n0 n1 n2 n3 nf HN HZ z0 z1 z2 z3 zf hs7 HZ7 HN7 HS6 HO6 hlt7
          refine c5.mono ?_
          clear c5
          rintro e w8 (⟨hB3, rfl, hs8, ho8, ⟨⟨z0, z1, z2, z3, zf⟩, HZ⟩, ⟨n0, n1, n2, n3, nf⟩, HN⟩ | ⟨hB3, rfl, hs8, ho8, ⟨⟨z0, z1, z2, z3, zf⟩, HZ⟩, ⟨n0, n1, n2, n3, nf⟩, HN⟩)
          · have hx0 : argsO C.ts C.s.size ex f q ≠ .out := fun e => HNE.out (by rw [E.out, HR6.out]; simp only [Res.bind]; rw [hB3, e]; rfl)
            have c6 := node_x (args_any C ex HHX.out f hf w8 q hs8 trivial hx0) _ (fun w' ho => And.intro (HZ.out.x ho hne0) (HN.out.x ho hne1))
            have HB3 := Lib.hid hB3
            have HO8 := Lib.hid (HO7.out.trans ho8)
            have hlt8 : w1.heap.size < w8.heap.size := HN.out.lt
            clear hB3 hx0 hs8 ho8 n0 n1 n2 n3 nf HN HZ z0 z1 z2 z3 zf HO7
            go_wp2_with fail
            refine c6.mono ?_
            clear c6
            rintro e w9 (⟨k, n, kids, pp, y, c, q9, hr9, rfl, hk9, hs9, ho9, ⟨⟨z0, z1, z2, z3, zf⟩, HZ⟩, ⟨n0, n1, n2, n3, nf⟩, HN⟩ | ⟨q9, hr9, b, hd1, rfl, hd3, hd4⟩)
            · have HR9 := Lib.hid hr9
              have HK9 := Lib.hid hk9
              have hlt9 := ho9.size
              have m0 := fun o => al_cell z0 o
              have m1 := fun o => al_cell z1 o
              have m2 := fun o => al_cell z2 o
              have m3 := fun o => al_cell z3 o
              have l0 := fun o => al_cell n0 o
              have l1 := fun o => al_cell n1 o
              have l2 := fun o => al_cell n2 o
              have l3 := fun o => al_cell n3 o
              have mf := fun ob o => ((HZ.out.alloc ob).facts).2.2.2.2 o
              have lf := fun ob o => ((HN.out.alloc ob).facts).2.2.2.2 o
              clear hr9 hk9
              go_wp2_with fail
              have hB9 : w8.heap.size ≤ w9.heap.size := ho9.size
              refine ret_node rfl rfl rfl (by simp [go_sem, m0]) (by simp [go_sem, m1]) (by simp [go_sem, m2]) (by simp [go_sem, m3]) (.inl ⟨13, tx, [.mk k n kids pp], pl, some ⟨w9.heap.size, 0, none⟩, ⟨1, Nat.le_refl _⟩, q9, ?_, rfl,
                ((((NdRow.build hB9 (NFlat.one (HK9.out.cells (k := k) (n := n) (p := pp) (c := c)))).set (fun b hb => by omega)).set (fun b hb => by omega)).set4 (fun b hb => by omega)).wide (fun b hb _ => by omega),
                H0.out.keep hs9 (((((Kp.refl _ _).alloc (by omega) _).set (by omega)).set (by omega)).set4 (Nat.le_refl _)), ((((HO8.out.trans ho9).alloc _).set (by omega)).set (by omega)).set4 (Nat.le_refl _)⟩)
              rw [E.out, HR6.out]
              simp only [Res.bind]
              rw [HB3.out, if_pos rfl, HR9.out]
            · refine ⟨rfl, .inr ⟨q9, ?_, b, Nat.le_trans HO8.out.size hd1, rfl, hd3, HO8.out.trans hd4⟩⟩
              rw [E.out, HR6.out]
              simp only [Res.bind]
              rw [HB3.out, if_pos rfl, hr9]
          · have HB3 := Lib.hid hB3
            clear hB3
            go_wp2_with fail
            refine ret_node rfl rfl rfl (by simp [go_sem, z0]) (by simp [go_sem, z1]) (by simp [go_sem, z2]) (by simp [go_sem, z3]) (.inl ⟨10, tx, [], pl, none, ⟨0, Nat.le_refl _⟩, q, ?_, rfl, trivial, H0.out.keep hs8 ((Kp.refl _ _).set4 (Nat.le_refl _)), (HO7.out.trans ho8).set4 (Nat.le_refl _)⟩)
            rw [E.out, HR6.out]
            simp only [Res.bind]
            rw [HB3.out]
            rfl
        · refine ⟨rfl, .inr ⟨p, ?_, b, Nat.le_trans HO5.out.size hd1, rfl, hd3, HO5.out.trans hd4⟩⟩
          rw [E.out, hr6]
          rfl
end Go.Proofs.YtpbkeamjdolpgaaGreatDoor
