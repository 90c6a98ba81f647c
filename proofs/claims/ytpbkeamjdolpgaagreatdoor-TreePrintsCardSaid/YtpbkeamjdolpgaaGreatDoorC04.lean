/- The walks of the reference's tight and texts. The walk of the reference's text: one kind. The walk of the reference's text: one kind. The walk of the reference's text: one kind. The walk of the reference's text: one kind. The walk of the reference's text: one kind. The walk of the reference's text: one kind. The walk of the reference's text: one kind. The walk of the reference's text: one kind. -/
import Derived.Test.YtpbkeamjdolpgaaGreatDoorC01
import Derived.Test.YtpbkeamjdolpgaaGreatDoorB21
import Derived.BigQuiet
import Derived.Deep.QuietTactic
import Derived.Lib.QuietBelow
namespace Go.Proofs.YtpbkeamjdolpgaaGreatDoor
open Go.RowKit Go.Lib Go.Shelf Go.Sort

set_option maxHeartbeats 4000000 in
set_option maxRecDepth 100000 in
theorem rtight_any (ok : Nat → Prop) (x : Nd) (hlen : x.kids.length < 2 ^ 62) (v : Value) (w : World) (hv : NdVal w ok x v) :
    Calls Tryz.prog 152 #[v] w fun e w' => e = .returned (.int .i64 (tightR x)) ∧ Below w.heap.size w w' := by
  obtain ⟨k, n, kids, p⟩ := x
  obtain ⟨y, c, rfl, hrow⟩ := hv
  have hlen' : kids.length < 2 ^ 62 := hlen
  have hA : ∀ o, Below w.heap.size w (w.alloc o) := fun o => (Below.refl _ _).alloc (Nat.le_refl _) _
  have c0 := rlevel_any27 n (w.alloc (ndO k n y kids.length c p))
  have HA := Lib.hid hA
  have hR : tightR (.mk k n kids p) = if k = 15 then 0 else if k = 12 then (if kids.length = 2 then levelS n else 6) else if k = 14 then 7 else 8 := rfl
  rw [hR]
  unfold ndO at c0
  obtain ⟨m, hm⟩ : ∃ m, kids.length = m := ⟨_, rfl⟩
  have hle := levelS_le n
  obtain ⟨L, hL⟩ : ∃ L, levelS n = L := ⟨_, rfl⟩
  rw [hm] at c0 hlen' ⊢
  rw [hL] at c0 hle ⊢
  clear hrow hA hR hlen hL hm
  by_cases h15 : k = 15
  · subst h15
    clear c0
    go_enter Tryz.func152, Tryz.ntmps152
    go_wp2_with fail
    go_ret
    exact ⟨rfl, (HA.out _)⟩
  have q15 : (k == 15) = false := beq_eq_false_iff_ne.2 h15
  rw [if_neg h15]
  by_cases h12 : k = 12
  · subst h12
    rw [if_pos rfl]
    by_cases h2 : m = 2
    · subst h2
      rw [if_pos rfl]
      have QL : IntKind.i64.wrap (1 + ((L : Int) - 1)) = (L : Int) := by rw [IntWalk.i64_in _ (by omega)]; omega
      go_enter Tryz.func152, Tryz.ntmps152
      go_wp2_with fail
      refine c0.mono ?_
      clear c0
      rintro e w1 ⟨rfl, hb1⟩
      go_wp2_with fail
      go_ret
      exact ⟨by first | rfl | simp [QL], tr (HA.out _) hb1⟩
    · rw [if_neg h2]
      clear c0
      have q2 : ((m : Int) == 2) = false := beq_eq_false_iff_ne.2 (by omega)
      go_enter Tryz.func152, Tryz.ntmps152
      go_wp2_with fail
      go_ret
      exact ⟨rfl, (HA.out _)⟩
  have q12 : (k == 12) = false := beq_eq_false_iff_ne.2 h12
  rw [if_neg h12]
  clear c0
  by_cases h14 : k = 14
  · subst h14
    go_enter Tryz.func152, Tryz.ntmps152
    go_wp2_with fail
    go_ret
    exact ⟨rfl, (HA.out _)⟩
  have q14 : (k == 14) = false := beq_eq_false_iff_ne.2 h14
  rw [if_neg h14]
  go_enter Tryz.func152, Tryz.ntmps152
  go_wp2_with fail
  go_ret
  exact ⟨rfl, (HA.out _)⟩

theorem tightR_lt : ∀ x : Nd, tightR x < 50
  | .mk k n l p => by
    have h := levelS_le n
    have e : tightR (.mk k n l p) = if k = 15 then 0 else if k = 12 then (if l.length = 2 then levelS n else 6) else if k = 14 then 7 else 8 := rfl
    rw [e]
    repeat' split
    all_goals omega
/-- The reference's text of a node. -/
def RTx (x : Nd) : Prop := ∀ (ok : Nat → Prop) (v : Value) (a : Nat) (w : World), NdVal w ok x v → a < 100 → (exT x a).length ≤ 2 ^ 46 →
  Calls Tryz.prog 98 #[v, .int .i64 a] w fun e w' => e = .returned (.string ⟨(exT x a).toArray⟩) ∧ Below w.heap.size w w'
/-- The reference's texts of a row. -/
def RTs (l : List Nd) : Prop := ∀ (ok : Nat → Prop) (y : Option Addr) (c : Nat) (w : World), NdRow w ok l y → (joinC (ex0s l)).length ≤ 2 ^ 46 →
  Calls Tryz.prog 99 #[.slice y l.length c] w fun e w' => e = .returned (.string ⟨(joinC (ex0s l)).toArray⟩) ∧ Below w.heap.size w w'
set_option maxHeartbeats 4000000 in
set_option maxRecDepth 100000 in
theorem rtexts_any (kids : List Nd) (hE : ∀ x ∈ kids, RTx x) (hkl : kids.length < 2 ^ 62) : RTs kids := by
  intro ok y c w hrow hlen
  obtain ⟨n, hn⟩ : ∃ n, kids.length = n := ⟨_, rfl⟩
  have HN := Lib.hid hn
  have HE := Lib.hid hE
  have HLEN := Lib.hid hlen
  have HROW := Lib.hid hrow
  rw [hn] at hkl ⊢
  obtain ⟨X, hX⟩ : ∃ X, joinC (ex0s kids) = X := ⟨_, rfl⟩
  rw [hX]
  have HX := Lib.hid hX
  clear hE hlen hrow hn hX
  go_enter Tryz.func99, Tryz.ntmps99
  go_wp2_with fail
  go_loopw [3, 4] (fun s v wx => ∃ i : Nat, v = .int .i64 i ∧ i ≤ n ∧ s = .string ⟨(joinC ((ex0s kids).take i)).toArray⟩ ∧ Below w.heap.size w wx) (fun _ v _ => n - (RowKit.intOf v).toNat)
  case atStart => exact ⟨0, rfl, Nat.zero_le _, rfl, Below.refl _ _⟩
  case round =>
    obtain ⟨i, rfl, hi, rfl, hb⟩ := hrel
    by_cases hlt : i < n
    · obtain ⟨x, hx⟩ : ∃ x, kids[i]? = some x := ⟨kids[i]'(by have := HN.out; omega), List.getElem?_eq_getElem _⟩
      have hjt := joinC_take (ex0s_at hx)
      have hjl := joinC_le (ex0s kids) (i + 1)
      obtain ⟨B, o, rfl, hat⟩ := (HROW.out.below hb).at_ hx
      have hxx := HE.out x (List.mem_of_getElem? hx)
      obtain ⟨k, nm, z, m, cc, p, rfl, x0, x1, x2, x3, hk⟩ := hat.val
      have hlx := HLEN.out
      rw [hjt] at hjl
      simp only [List.length_append] at hjl
      have c1 := hxx ok (.agg #[.int .i64 k, .string ⟨nm.toArray⟩, .slice z m.length cc, .int .i64 p]) 0 wr ⟨z, cc, rfl, hk⟩ (by omega) (by omega)
      obtain ⟨Y, hY⟩ : ∃ Y, exT (.mk k nm m p) 0 = Y := ⟨_, rfl⟩
      obtain ⟨S, hS⟩ : ∃ S, joinC ((ex0s kids).take i) = S := ⟨_, rfl⟩
      rw [hY] at c1 hjt hjl
      rw [hS] at hjt hjl ⊢
      have HJT := Lib.hid hjt
      have hlt' : (i : Int) < (n : Int) := by omega
      have Qi : IntKind.i64.wrap ((i : Int) + 1) = (i : Int) + 1 := IntWalk.i64_in _ (by omega)
      by_cases hi0 : i = 0
      · have Q0 : ¬ (0 : Int) < (i : Int) := by omega
        have f1 : ∀ W, (Op.stringOp .add ⟨S.toArray⟩ ⟨Y.toArray⟩).run Tryz.prog W = .ok (.string ⟨(S ++ Y).toArray⟩) W := cat_run S Y _ rfl (by omega)
        have HJ2 : Hid (joinC ((ex0s kids).take (i + 1)) = S ++ Y) := by
          show _ = _
          rw [HJT.out, if_pos hi0]
          rfl
        obtain ⟨Z, hZ⟩ : ∃ Z, S ++ Y = Z := ⟨_, rfl⟩
        rw [hZ] at f1 HJ2
        clear hx hat hk hjt hjl hlx hxx hY hS hi0 HJT hZ
        go_wp2_with fail
        refine c1.mono ?_
        clear c1
        rintro e w1 ⟨rfl, hb1⟩
        go_wp2_with fail
        go_roundw
        case rel => exact ⟨i + 1, by go_num, by omega, by rw [HJ2.out], tr hb hb1⟩
        case measure => simp [RowKit.intOf]; omega
      · have Q0 : (0 : Int) < (i : Int) := by omega
        rw [if_neg hi0] at hjl
        simp at hjl
        have f0 : ∀ W, (Op.stringOp .add ⟨S.toArray⟩ ⟨#[44, 32]⟩).run Tryz.prog W = .ok (.string ⟨(S ++ [44, 32]).toArray⟩) W := cat_run S [44, 32] _ rfl (by simp; omega)
        have f1 : ∀ W, (Op.stringOp .add ⟨(S ++ [44, 32]).toArray⟩ ⟨Y.toArray⟩).run Tryz.prog W = .ok (.string ⟨(S ++ [44, 32] ++ Y).toArray⟩) W := cat_run (S ++ [44, 32]) Y _ rfl (by simp; omega)
        have HJ2 : Hid (joinC ((ex0s kids).take (i + 1)) = S ++ [44, 32] ++ Y) := by
          show _ = _
          rw [HJT.out, if_neg hi0, List.append_assoc]
        obtain ⟨S2, hS2⟩ : ∃ Z, S ++ [44, 32] = Z := ⟨_, rfl⟩
        rw [hS2] at f0 f1 HJ2
        obtain ⟨Z, hZ⟩ : ∃ Z, S2 ++ Y = Z := ⟨_, rfl⟩
        rw [hZ] at f1 HJ2
        clear hx hat hk hjt hjl hlx hxx hY hS hi0 HJT hZ hS2
        go_wp2_with fail
        refine c1.mono ?_
        clear c1
        rintro e w1 ⟨rfl, hb1⟩
        go_wp2_with fail
        go_roundw
        case rel => exact ⟨i + 1, by go_num, by omega, by rw [HJ2.out], tr hb hb1⟩
        case measure => simp [RowKit.intOf]; omega
    · have hjx : Hid (joinC ((ex0s kids).take i) = X) := by
        show _ = _
        rw [← HX.out, List.take_of_length_le (by rw [ex0s_map, List.length_map]; have := HN.out; omega)]
      have hlt' : ¬ (i : Int) < (n : Int) := by omega
      rw [hjx.out]
      go_wp2_with fail
      go_ret
      exact ⟨rfl, hb⟩
end Go.Proofs.YtpbkeamjdolpgaaGreatDoor
namespace Go.Proofs.YtpbkeamjdolpgaaGreatDoor
open Go.RowKit Go.Lib Go.Shelf Go.Sort

set_option maxHeartbeats 4000000 in
set_option maxRecDepth 100000 in
theorem rtx_leaf9 (n : List UInt8)  (p : Int) : RTx (.mk 9 n [] p) := by
  intro ok v a w hv ha hlen
  obtain ⟨y, c, rfl, hrow⟩ := hv
  have hA : Below w.heap.size w (w.alloc (ndO 9 n y 0 c p)) := (Below.refl _ _).alloc (Nat.le_refl _) _
  have B0 := Lib.hid (NdBox.new w 9 n y 0 c p)
  have HA := Lib.hid hA
  have C0 : Hid (∀ W, Below (w.alloc (ndO 9 n y 0 c p)).heap.size (w.alloc (ndO 9 n y 0 c p)) W → Calls Tryz.prog 152 #[.agg #[.int .i64 9, .string ⟨n.toArray⟩, .slice y 0 c, .int .i64 p]] W fun e w' => e = .returned (.int .i64 (tightR (.mk 9 n [] p))) ∧ Below W.heap.size W w') := fun W hW =>
    rtight_any ok (.mk 9 n [] p) (by show ([] : List Nd).length < _; simp) _ W ⟨y, c, rfl, (hrow.below hA).below hW⟩
  obtain ⟨T, hT⟩ : ∃ T, tightR (.mk 9 n [] p) = T := ⟨_, rfl⟩
  have hTl : T < 50 := by
    rw [← hT]
    exact tightR_lt _
  obtain ⟨BODY, hBODY⟩ : ∃ b, n = b := ⟨_, rfl⟩
  have hx : exT (.mk 9 n [] p) a = parT (decide (T < a)) BODY := by
    rw [← hBODY, ← hT]
    rw [exT]
    rfl
  obtain ⟨X, hX⟩ : ∃ X, exT (.mk 9 n [] p) a = X := ⟨_, rfl⟩
  rw [hX] at hx hlen ⊢
  have hbl : BODY.length ≤ X.length := by rw [hx]; exact parT_len _ _
  have HX := Lib.hid hx
  rw [hT] at C0
  have hfin : n = BODY := hBODY
  have g0 : ∀ W, (Op.stringOp .add ⟨#[40]⟩ ⟨n.toArray⟩).run Tryz.prog W = .ok (.string ⟨([40] ++ n).toArray⟩) W := cat_run [40] n _ rfl (by rw [hfin]; simp only [List.length_cons, List.length_nil]; omega)
  have g1 : ∀ W, (Op.stringOp .add ⟨([40] ++ n).toArray⟩ ⟨#[41]⟩).run Tryz.prog W = .ok (.string ⟨([40] ++ n ++ [41]).toArray⟩) W := cat_run ([40] ++ n) [41] _ rfl (by rw [hfin]; simp only [List.length_append, List.length_cons, List.length_nil]; omega)
  have HF := Lib.hid hfin
  obtain ⟨P0, hP0⟩ : ∃ P, [40] ++ n = P := ⟨_, rfl⟩
  obtain ⟨P1, hP1⟩ : ∃ P, P0 ++ [41] = P := ⟨_, rfl⟩
  rw [hP0] at g0 g1
  rw [hP1] at g1
  have HP : Hid (P1 = [40] ++ n ++ [41]) := by
    show _ = _
    rw [← hP1, ← hP0]
  have HROW := Lib.hid (hrow.below hA)
  unfold ndO at B0 HA C0 HROW
  clear  hrow hA hlen hx hX hT hbl  hfin hP0 hP1   hBODY 
  go_enter Tryz.func98, Tryz.ntmps98
  go_wp2_with fail
  generalize w.alloc (.cells #[.int .i64 9, .string ⟨n.toArray⟩, .slice y 0 c, .int .i64 p] 53) = wA at *
  refine (C0.out _ (Below.refl _ _)).mono ?_
  rintro e w2 ⟨rfl, hb2⟩
  obtain ⟨b0, b1, b2, b3⟩ := B0.out.below hb2
  have HB2 := Lib.hid (HA.out.trans (hb2.mono HA.out.size))
  clear C0 hb2
  have HB3 := HB2
  by_cases hq : T < a
  · have Q : (T : Int) < (a : Int) := by omega
    have HX2 : Hid (X = P1) := by
      show X = P1
      rw [HX.out, decide_eq_true hq, HP.out, HF.out]
      rfl
    clear hq HX HP HF
    go_wp2_with fail
    go_ret
    exact ⟨by rw [HX2.out]; rfl, HB3.out⟩
  · have Q : ¬ (T : Int) < (a : Int) := by omega
    have HX2 : Hid (X = n) := by
      show X = n
      rw [HX.out, decide_eq_false hq, HF.out]
      rfl
    clear hq HX HP HF
    go_wp2_with fail
    go_ret
    exact ⟨by rw [HX2.out]; rfl, HB3.out⟩
end Go.Proofs.YtpbkeamjdolpgaaGreatDoor
namespace Go.Proofs.YtpbkeamjdolpgaaGreatDoor
open Go.RowKit Go.Lib Go.Shelf Go.Sort

set_option maxHeartbeats 4000000 in
set_option maxRecDepth 100000 in
theorem rtx_leaf10 (n : List UInt8)  (p : Int) : RTx (.mk 10 n [] p) := by
  intro ok v a w hv ha hlen
  obtain ⟨y, c, rfl, hrow⟩ := hv
  have hA : Below w.heap.size w (w.alloc (ndO 10 n y 0 c p)) := (Below.refl _ _).alloc (Nat.le_refl _) _
  have B0 := Lib.hid (NdBox.new w 10 n y 0 c p)
  have HA := Lib.hid hA
  have C0 : Hid (∀ W, Below (w.alloc (ndO 10 n y 0 c p)).heap.size (w.alloc (ndO 10 n y 0 c p)) W → Calls Tryz.prog 152 #[.agg #[.int .i64 10, .string ⟨n.toArray⟩, .slice y 0 c, .int .i64 p]] W fun e w' => e = .returned (.int .i64 (tightR (.mk 10 n [] p))) ∧ Below W.heap.size W w') := fun W hW =>
    rtight_any ok (.mk 10 n [] p) (by show ([] : List Nd).length < _; simp) _ W ⟨y, c, rfl, (hrow.below hA).below hW⟩
  obtain ⟨T, hT⟩ : ∃ T, tightR (.mk 10 n [] p) = T := ⟨_, rfl⟩
  have hTl : T < 50 := by
    rw [← hT]
    exact tightR_lt _
  obtain ⟨BODY, hBODY⟩ : ∃ b, n = b := ⟨_, rfl⟩
  have hx : exT (.mk 10 n [] p) a = parT (decide (T < a)) BODY := by
    rw [← hBODY, ← hT]
    rw [exT]
    rfl
  obtain ⟨X, hX⟩ : ∃ X, exT (.mk 10 n [] p) a = X := ⟨_, rfl⟩
  rw [hX] at hx hlen ⊢
  have hbl : BODY.length ≤ X.length := by rw [hx]; exact parT_len _ _
  have HX := Lib.hid hx
  rw [hT] at C0
  have hfin : n = BODY := hBODY
  have g0 : ∀ W, (Op.stringOp .add ⟨#[40]⟩ ⟨n.toArray⟩).run Tryz.prog W = .ok (.string ⟨([40] ++ n).toArray⟩) W := cat_run [40] n _ rfl (by rw [hfin]; simp only [List.length_cons, List.length_nil]; omega)
  have g1 : ∀ W, (Op.stringOp .add ⟨([40] ++ n).toArray⟩ ⟨#[41]⟩).run Tryz.prog W = .ok (.string ⟨([40] ++ n ++ [41]).toArray⟩) W := cat_run ([40] ++ n) [41] _ rfl (by rw [hfin]; simp only [List.length_append, List.length_cons, List.length_nil]; omega)
  have HF := Lib.hid hfin
  obtain ⟨P0, hP0⟩ : ∃ P, [40] ++ n = P := ⟨_, rfl⟩
  obtain ⟨P1, hP1⟩ : ∃ P, P0 ++ [41] = P := ⟨_, rfl⟩
  rw [hP0] at g0 g1
  rw [hP1] at g1
  have HP : Hid (P1 = [40] ++ n ++ [41]) := by
    show _ = _
    rw [← hP1, ← hP0]
  have HROW := Lib.hid (hrow.below hA)
  unfold ndO at B0 HA C0 HROW
  clear  hrow hA hlen hx hX hT hbl  hfin hP0 hP1   hBODY 
  go_enter Tryz.func98, Tryz.ntmps98
  go_wp2_with fail
  generalize w.alloc (.cells #[.int .i64 10, .string ⟨n.toArray⟩, .slice y 0 c, .int .i64 p] 53) = wA at *
  refine (C0.out _ (Below.refl _ _)).mono ?_
  rintro e w2 ⟨rfl, hb2⟩
  obtain ⟨b0, b1, b2, b3⟩ := B0.out.below hb2
  have HB2 := Lib.hid (HA.out.trans (hb2.mono HA.out.size))
  clear C0 hb2
  have HB3 := HB2
  by_cases hq : T < a
  · have Q : (T : Int) < (a : Int) := by omega
    have HX2 : Hid (X = P1) := by
      show X = P1
      rw [HX.out, decide_eq_true hq, HP.out, HF.out]
      rfl
    clear hq HX HP HF
    go_wp2_with fail
    go_ret
    exact ⟨by rw [HX2.out]; rfl, HB3.out⟩
  · have Q : ¬ (T : Int) < (a : Int) := by omega
    have HX2 : Hid (X = n) := by
      show X = n
      rw [HX.out, decide_eq_false hq, HF.out]
      rfl
    clear hq HX HP HF
    go_wp2_with fail
    go_ret
    exact ⟨by rw [HX2.out]; rfl, HB3.out⟩
end Go.Proofs.YtpbkeamjdolpgaaGreatDoor
namespace Go.Proofs.YtpbkeamjdolpgaaGreatDoor
open Go.RowKit Go.Lib Go.Shelf Go.Sort

set_option maxHeartbeats 4000000 in
set_option maxRecDepth 100000 in
theorem rtx_list (_p0 : Int) (kids : List Nd) (p : Int) (hkl : kids.length < 2 ^ 62) (hkids : RTs kids) : RTx (.mk 11 [] kids p) := by
  intro ok v a w hv ha hlen
  obtain ⟨y, c, rfl, hrow⟩ := hv
  have hA : Below w.heap.size w (w.alloc (ndO 11 [] y kids.length c p)) := (Below.refl _ _).alloc (Nat.le_refl _) _
  have B0 := Lib.hid (NdBox.new w 11 [] y kids.length c p)
  have HA := Lib.hid hA
  have C0 : Hid (∀ W, Below (w.alloc (ndO 11 [] y kids.length c p)).heap.size (w.alloc (ndO 11 [] y kids.length c p)) W → Calls Tryz.prog 152 #[.agg #[.int .i64 11, .string ⟨([] : List UInt8).toArray⟩, .slice y kids.length c, .int .i64 p]] W fun e w' => e = .returned (.int .i64 (tightR (.mk 11 [] kids p))) ∧ Below W.heap.size W w') := fun W hW =>
    rtight_any ok (.mk 11 [] kids p) hkl _ W ⟨y, c, rfl, (hrow.below hA).below hW⟩
  obtain ⟨T, hT⟩ : ∃ T, tightR (.mk 11 [] kids p) = T := ⟨_, rfl⟩
  have hTl : T < 50 := by
    rw [← hT]
    exact tightR_lt _
  obtain ⟨BODY, hBODY⟩ : ∃ b, ([91] ++ joinC (ex0s kids)) ++ [93] = b := ⟨_, rfl⟩
  have hx : exT (.mk 11 [] kids p) a = parT (decide (T < a)) BODY := by
    rw [← hBODY, ← hT]
    rw [exT]
    rfl
  obtain ⟨X, hX⟩ : ∃ X, exT (.mk 11 [] kids p) a = X := ⟨_, rfl⟩
  rw [hX] at hx hlen ⊢
  have hbl : BODY.length ≤ X.length := by rw [hx]; exact parT_len _ _
  have HX := Lib.hid hx
  rw [hT] at C0
  have CY0 : Hid (∀ W y c, NdRow W ok kids y → Calls Tryz.prog 99 #[.slice y kids.length c] W fun e w' => e = .returned (.string ⟨(joinC (ex0s kids)).toArray⟩) ∧ Below W.heap.size W w') := fun W y c hr =>
    hkids ok y c W hr (by rw [← hBODY] at hbl; simp only [List.length_append] at hbl; omega)
  obtain ⟨Y0, hY0⟩ : ∃ Y, joinC (ex0s kids) = Y := ⟨_, rfl⟩
  rw [hY0] at CY0 hBODY
  have hbl2 := hbl
  rw [← hBODY] at hbl2
  simp only [List.length_append, List.length_cons, List.length_nil] at hbl2
  obtain ⟨A0, hA0⟩ : ∃ A, [91] ++ Y0 = A := ⟨_, rfl⟩
  rw [hA0] at hBODY
  have lA0 : A0.length = ([91] : List UInt8).length + (Y0 : List UInt8).length := by rw [← hA0, List.length_append]
  try simp only [List.length_cons, List.length_nil] at lA0
  have f0 : ∀ W, (Op.stringOp .add ⟨#[91]⟩ ⟨Y0.toArray⟩).run Tryz.prog W = .ok (.string ⟨A0.toArray⟩) W := cat_run [91] Y0 _ hA0.symm (by simp; omega)
  obtain ⟨A1, hA1⟩ : ∃ A, A0 ++ [93] = A := ⟨_, rfl⟩
  rw [hA1] at hBODY
  have lA1 : A1.length = (A0 : List UInt8).length + ([93] : List UInt8).length := by rw [← hA1, List.length_append]
  try simp only [List.length_cons, List.length_nil] at lA1
  have f1 : ∀ W, (Op.stringOp .add ⟨A0.toArray⟩ ⟨#[93]⟩).run Tryz.prog W = .ok (.string ⟨A1.toArray⟩) W := cat_run A0 [93] _ hA1.symm (by simp; omega)
  have hfin : A1 = BODY := hBODY
  have g0 : ∀ W, (Op.stringOp .add ⟨#[40]⟩ ⟨A1.toArray⟩).run Tryz.prog W = .ok (.string ⟨([40] ++ A1).toArray⟩) W := cat_run [40] A1 _ rfl (by rw [hfin]; simp only [List.length_cons, List.length_nil]; omega)
  have g1 : ∀ W, (Op.stringOp .add ⟨([40] ++ A1).toArray⟩ ⟨#[41]⟩).run Tryz.prog W = .ok (.string ⟨([40] ++ A1 ++ [41]).toArray⟩) W := cat_run ([40] ++ A1) [41] _ rfl (by rw [hfin]; simp only [List.length_append, List.length_cons, List.length_nil]; omega)
  have HF := Lib.hid hfin
  obtain ⟨P0, hP0⟩ : ∃ P, [40] ++ A1 = P := ⟨_, rfl⟩
  obtain ⟨P1, hP1⟩ : ∃ P, P0 ++ [41] = P := ⟨_, rfl⟩
  rw [hP0] at g0 g1
  rw [hP1] at g1
  have HP : Hid (P1 = [40] ++ A1 ++ [41]) := by
    show _ = _
    rw [← hP1, ← hP0]
  have HROW := Lib.hid (hrow.below hA)
  unfold ndO at B0 HA C0 HROW
  clear  hrow hA hlen hx hX hT hbl hbl2 hfin hP0 hP1 hY0 lA0 hA0 lA1 hA1 hBODY 
  go_enter Tryz.func98, Tryz.ntmps98
  go_wp2_with fail
  generalize w.alloc (.cells #[.int .i64 11, .string ⟨#[]⟩, .slice y kids.length c, .int .i64 p] 53) = wA at *
  refine (C0.out _ (Below.refl _ _)).mono ?_
  rintro e w2 ⟨rfl, hb2⟩
  obtain ⟨b0, b1, b2, b3⟩ := B0.out.below hb2
  have HB2 := Lib.hid (HA.out.trans (hb2.mono HA.out.size))
  have HBW := Lib.hid hb2
  clear C0 hb2
  go_wp2_with fail
  refine (CY0.out w2 y c (HROW.out.below (HBW.out))).mono ?_
  clear CY0
  rintro e w3 ⟨rfl, hb3⟩
  have HB3 := Lib.hid (HB2.out.trans (hb3.mono HB2.out.size))
  clear hb3
  by_cases hq : T < a
  · have Q : (T : Int) < (a : Int) := by omega
    have HX2 : Hid (X = P1) := by
      show X = P1
      rw [HX.out, decide_eq_true hq, HP.out, HF.out]
      rfl
    clear hq HX HP HF
    go_wp2_with fail
    go_ret
    exact ⟨by rw [HX2.out]; rfl, HB3.out⟩
  · have Q : ¬ (T : Int) < (a : Int) := by omega
    have HX2 : Hid (X = A1) := by
      show X = A1
      rw [HX.out, decide_eq_false hq, HF.out]
      rfl
    clear hq HX HP HF
    go_wp2_with fail
    go_ret
    exact ⟨by rw [HX2.out]; rfl, HB3.out⟩
end Go.Proofs.YtpbkeamjdolpgaaGreatDoor
namespace Go.Proofs.YtpbkeamjdolpgaaGreatDoor
open Go.RowKit Go.Lib Go.Shelf Go.Sort

set_option maxHeartbeats 4000000 in
set_option maxRecDepth 100000 in
theorem rtx_pick (_p0 : Int) (x0 x1 x2 : Nd) (p : Int) (hx0 : RTx x0) (hx1 : RTx x1) (hx2 : RTx x2) : RTx (.mk 15 [] [x0, x1, x2] p) := by
  intro ok v a w hv ha hlen
  obtain ⟨y, c, rfl, hrow⟩ := hv
  have hA : Below w.heap.size w (w.alloc (ndO 15 [] y 3 c p)) := (Below.refl _ _).alloc (Nat.le_refl _) _
  have B0 := Lib.hid (NdBox.new w 15 [] y 3 c p)
  have HA := Lib.hid hA
  have C0 : Hid (∀ W, Below (w.alloc (ndO 15 [] y 3 c p)).heap.size (w.alloc (ndO 15 [] y 3 c p)) W → Calls Tryz.prog 152 #[.agg #[.int .i64 15, .string ⟨([] : List UInt8).toArray⟩, .slice y 3 c, .int .i64 p]] W fun e w' => e = .returned (.int .i64 (tightR (.mk 15 [] [x0, x1, x2] p))) ∧ Below W.heap.size W w') := fun W hW =>
    rtight_any ok (.mk 15 [] [x0, x1, x2] p) (by show ([x0, x1, x2] : List Nd).length < _; simp) _ W ⟨y, c, rfl, (hrow.below hA).below hW⟩
  obtain ⟨T, hT⟩ : ∃ T, tightR (.mk 15 [] [x0, x1, x2] p) = T := ⟨_, rfl⟩
  have hTl : T < 50 := by
    rw [← hT]
    exact tightR_lt _
  obtain ⟨BODY, hBODY⟩ : ∃ b, (((exT x0 1 ++ [32, 63, 32]) ++ exT x1 0) ++ [32, 58, 32]) ++ exT x2 0 = b := ⟨_, rfl⟩
  have hx : exT (.mk 15 [] [x0, x1, x2] p) a = parT (decide (T < a)) BODY := by
    rw [← hBODY, ← hT]
    rw [exT]
    rfl
  obtain ⟨X, hX⟩ : ∃ X, exT (.mk 15 [] [x0, x1, x2] p) a = X := ⟨_, rfl⟩
  rw [hX] at hx hlen ⊢
  have hbl : BODY.length ≤ X.length := by rw [hx]; exact parT_len _ _
  have HX := Lib.hid hx
  rw [hT] at C0
  have CY0 : Hid (∀ W v, NdVal W ok x0 v → Calls Tryz.prog 98 #[v, .int .i64 1] W fun e w' => e = .returned (.string ⟨(exT x0 1).toArray⟩) ∧ Below W.heap.size W w') := fun W v hv =>
    hx0 ok v (1) W hv (by omega) (by rw [← hBODY] at hbl; simp only [List.length_append] at hbl; omega)
  obtain ⟨Y0, hY0⟩ : ∃ Y, exT x0 1 = Y := ⟨_, rfl⟩
  rw [hY0] at CY0 hBODY
  have CY1 : Hid (∀ W v, NdVal W ok x1 v → Calls Tryz.prog 98 #[v, .int .i64 0] W fun e w' => e = .returned (.string ⟨(exT x1 0).toArray⟩) ∧ Below W.heap.size W w') := fun W v hv =>
    hx1 ok v (0) W hv (by omega) (by rw [← hBODY] at hbl; simp only [List.length_append] at hbl; omega)
  obtain ⟨Y1, hY1⟩ : ∃ Y, exT x1 0 = Y := ⟨_, rfl⟩
  rw [hY1] at CY1 hBODY
  have CY2 : Hid (∀ W v, NdVal W ok x2 v → Calls Tryz.prog 98 #[v, .int .i64 0] W fun e w' => e = .returned (.string ⟨(exT x2 0).toArray⟩) ∧ Below W.heap.size W w') := fun W v hv =>
    hx2 ok v (0) W hv (by omega) (by rw [← hBODY] at hbl; simp only [List.length_append] at hbl; omega)
  obtain ⟨Y2, hY2⟩ : ∃ Y, exT x2 0 = Y := ⟨_, rfl⟩
  rw [hY2] at CY2 hBODY
  have hbl2 := hbl
  rw [← hBODY] at hbl2
  simp only [List.length_append, List.length_cons, List.length_nil] at hbl2
  obtain ⟨A0, hA0⟩ : ∃ A, Y0 ++ [32, 63, 32] = A := ⟨_, rfl⟩
  rw [hA0] at hBODY
  have lA0 : A0.length = (Y0 : List UInt8).length + ([32, 63, 32] : List UInt8).length := by rw [← hA0, List.length_append]
  try simp only [List.length_cons, List.length_nil] at lA0
  have f0 : ∀ W, (Op.stringOp .add ⟨Y0.toArray⟩ ⟨#[32, 63, 32]⟩).run Tryz.prog W = .ok (.string ⟨A0.toArray⟩) W := cat_run Y0 [32, 63, 32] _ hA0.symm (by simp; omega)
  obtain ⟨A1, hA1⟩ : ∃ A, A0 ++ Y1 = A := ⟨_, rfl⟩
  rw [hA1] at hBODY
  have lA1 : A1.length = (A0 : List UInt8).length + (Y1 : List UInt8).length := by rw [← hA1, List.length_append]
  try simp only [List.length_cons, List.length_nil] at lA1
  have f1 : ∀ W, (Op.stringOp .add ⟨A0.toArray⟩ ⟨Y1.toArray⟩).run Tryz.prog W = .ok (.string ⟨A1.toArray⟩) W := cat_run A0 Y1 _ hA1.symm (by simp; omega)
  obtain ⟨A2, hA2⟩ : ∃ A, A1 ++ [32, 58, 32] = A := ⟨_, rfl⟩
  rw [hA2] at hBODY
  have lA2 : A2.length = (A1 : List UInt8).length + ([32, 58, 32] : List UInt8).length := by rw [← hA2, List.length_append]
  try simp only [List.length_cons, List.length_nil] at lA2
  have f2 : ∀ W, (Op.stringOp .add ⟨A1.toArray⟩ ⟨#[32, 58, 32]⟩).run Tryz.prog W = .ok (.string ⟨A2.toArray⟩) W := cat_run A1 [32, 58, 32] _ hA2.symm (by simp; omega)
  obtain ⟨A3, hA3⟩ : ∃ A, A2 ++ Y2 = A := ⟨_, rfl⟩
  rw [hA3] at hBODY
  have lA3 : A3.length = (A2 : List UInt8).length + (Y2 : List UInt8).length := by rw [← hA3, List.length_append]
  try simp only [List.length_cons, List.length_nil] at lA3
  have f3 : ∀ W, (Op.stringOp .add ⟨A2.toArray⟩ ⟨Y2.toArray⟩).run Tryz.prog W = .ok (.string ⟨A3.toArray⟩) W := cat_run A2 Y2 _ hA3.symm (by simp; omega)
  have hfin : A3 = BODY := hBODY
  have g0 : ∀ W, (Op.stringOp .add ⟨#[40]⟩ ⟨A3.toArray⟩).run Tryz.prog W = .ok (.string ⟨([40] ++ A3).toArray⟩) W := cat_run [40] A3 _ rfl (by rw [hfin]; simp only [List.length_cons, List.length_nil]; omega)
  have g1 : ∀ W, (Op.stringOp .add ⟨([40] ++ A3).toArray⟩ ⟨#[41]⟩).run Tryz.prog W = .ok (.string ⟨([40] ++ A3 ++ [41]).toArray⟩) W := cat_run ([40] ++ A3) [41] _ rfl (by rw [hfin]; simp only [List.length_append, List.length_cons, List.length_nil]; omega)
  have HF := Lib.hid hfin
  obtain ⟨P0, hP0⟩ : ∃ P, [40] ++ A3 = P := ⟨_, rfl⟩
  obtain ⟨P1, hP1⟩ : ∃ P, P0 ++ [41] = P := ⟨_, rfl⟩
  rw [hP0] at g0 g1
  rw [hP1] at g1
  have HP : Hid (P1 = [40] ++ A3 ++ [41]) := by
    show _ = _
    rw [← hP1, ← hP0]
  have hrw := hrow.below hA
  obtain ⟨B, o, rfl, hat0, hrw⟩ := hrw
  obtain ⟨B', o', e', hat1, hrw⟩ := hrw
  cases e'
  obtain ⟨B', o', e', hat2, hrw⟩ := hrw
  cases e'
  unfold ndO at B0 HA C0 hat0 hat1 hat2
  clear hrw hrow hA hlen hx hX hT hbl hbl2 hfin hP0 hP1 hY0 hY1 hY2 lA0 hA0 lA1 hA1 lA2 hA2 lA3 hA3 hBODY 
  go_enter Tryz.func98, Tryz.ntmps98
  go_wp2_with fail
  generalize w.alloc (.cells #[.int .i64 15, .string ⟨#[]⟩, .slice (some ⟨B, o, none⟩) 3 c, .int .i64 p] 53) = wA at *
  refine (C0.out _ (Below.refl _ _)).mono ?_
  rintro e w2 ⟨rfl, hb2⟩
  obtain ⟨b0, b1, b2, b3⟩ := B0.out.below hb2
  have HB2 := Lib.hid (HA.out.trans (hb2.mono HA.out.size))
  obtain ⟨k0, nm0, z0, m0, cc0, q0, e0, x00, x01, x02, x03, hk0⟩ := (hat0.mono_below hb2).val
  obtain ⟨k1, nm1, z1, m1, cc1, q1, e1, x10, x11, x12, x13, hk1⟩ := (hat1.mono_below hb2).val
  obtain ⟨k2, nm2, z2, m2, cc2, q2, e2, x20, x21, x22, x23, hk2⟩ := (hat2.mono_below hb2).val
  clear C0 hb2
  have cEY0 := fun d os => Calls.regrown_of (CY0.out (grow (redrawn w2 d) os) (.agg #[.int .i64 k0, .string ⟨nm0.toArray⟩, .slice z0 m0.length cc0, .int .i64 q0]) (by rw [e0]; exact ⟨z0, cc0, rfl, hk0.below (below_regrown w2 d os)⟩))
  have cEY1 := fun d os => Calls.regrown_of (CY1.out (grow (redrawn w2 d) os) (.agg #[.int .i64 k1, .string ⟨nm1.toArray⟩, .slice z1 m1.length cc1, .int .i64 q1]) (by rw [e1]; exact ⟨z1, cc1, rfl, hk1.below (below_regrown w2 d os)⟩))
  have cEY2 := fun d os => Calls.regrown_of (CY2.out (grow (redrawn w2 d) os) (.agg #[.int .i64 k2, .string ⟨nm2.toArray⟩, .slice z2 m2.length cc2, .int .i64 q2]) (by rw [e2]; exact ⟨z2, cc2, rfl, hk2.below (below_regrown w2 d os)⟩))
  have rb1 := cell_regrown b1
  have rx00 := cell_regrown x00
  have rx01 := cell_regrown x01
  have rx02 := cell_regrown x02
  have rx03 := cell_regrown x03
  have rx10 := cell_regrown x10
  have rx11 := cell_regrown x11
  have rx12 := cell_regrown x12
  have rx13 := cell_regrown x13
  have rx20 := cell_regrown x20
  have rx21 := cell_regrown x21
  have rx22 := cell_regrown x22
  have rx23 := cell_regrown x23
  clear CY0 CY1 CY2 hk0 hat0 hk1 hat1 hk2 hat2 e0 e1 e2
  go_wp2_with fail
  refine wp_region_quiet_below (by kernel_rfl) (by kernel_rfl) ?_
  repeat (go_big_quiet_step (first | with_reducible exact cEY0 _ _ | with_reducible exact cEY1 _ _ | with_reducible exact cEY2 _ _))
  refine wpQuiet_nil ?_
  intro _ hw'
  obtain ⟨⟨dq, osq⟩, hw''⟩ := hw'
  subst hw''
  have hb3 := below_regrown w2 dq osq
  generalize grow (redrawn w2 dq) osq = w3 at *
  have HB3 := Lib.hid (HB2.out.trans (hb3.mono HB2.out.size))
  clear rb1 rx00 rx01 rx02 rx03 rx10 rx11 rx12 rx13 rx20 rx21 rx22 rx23 cEY0 cEY1 cEY2 hb3
  by_cases hq : T < a
  · have Q : (T : Int) < (a : Int) := by omega
    have HX2 : Hid (X = P1) := by
      show X = P1
      rw [HX.out, decide_eq_true hq, HP.out, HF.out]
      rfl
    clear hq HX HP HF
    go_wp2_with fail
    go_ret
    exact ⟨by rw [HX2.out]; rfl, HB3.out⟩
  · have Q : ¬ (T : Int) < (a : Int) := by omega
    have HX2 : Hid (X = A3) := by
      show X = A3
      rw [HX.out, decide_eq_false hq, HF.out]
      rfl
    clear hq HX HP HF
    go_wp2_with fail
    go_ret
    exact ⟨by rw [HX2.out]; rfl, HB3.out⟩
end Go.Proofs.YtpbkeamjdolpgaaGreatDoor
namespace Go.Proofs.YtpbkeamjdolpgaaGreatDoor
open Go.RowKit Go.Lib Go.Shelf Go.Sort

set_option maxHeartbeats 4000000 in
set_option maxRecDepth 100000 in
theorem rtx_one (n : List UInt8) (x0 : Nd) (p : Int) (hx0 : RTx x0) : RTx (.mk 12 n [x0] p) := by
  intro ok v a w hv ha hlen
  obtain ⟨y, c, rfl, hrow⟩ := hv
  have hA : Below w.heap.size w (w.alloc (ndO 12 n y 1 c p)) := (Below.refl _ _).alloc (Nat.le_refl _) _
  have B0 := Lib.hid (NdBox.new w 12 n y 1 c p)
  have HA := Lib.hid hA
  have C0 : Hid (∀ W, Below (w.alloc (ndO 12 n y 1 c p)).heap.size (w.alloc (ndO 12 n y 1 c p)) W → Calls Tryz.prog 152 #[.agg #[.int .i64 12, .string ⟨n.toArray⟩, .slice y 1 c, .int .i64 p]] W fun e w' => e = .returned (.int .i64 (tightR (.mk 12 n [x0] p))) ∧ Below W.heap.size W w') := fun W hW =>
    rtight_any ok (.mk 12 n [x0] p) (by show ([x0] : List Nd).length < _; simp) _ W ⟨y, c, rfl, (hrow.below hA).below hW⟩
  obtain ⟨T, hT⟩ : ∃ T, tightR (.mk 12 n [x0] p) = T := ⟨_, rfl⟩
  have hTl : T < 50 := by
    rw [← hT]
    exact tightR_lt _
  obtain ⟨BODY, hBODY⟩ : ∃ b, n ++ exT x0 6 = b := ⟨_, rfl⟩
  have hx : exT (.mk 12 n [x0] p) a = parT (decide (T < a)) BODY := by
    rw [← hBODY, ← hT]
    rw [exT]
    rfl
  obtain ⟨X, hX⟩ : ∃ X, exT (.mk 12 n [x0] p) a = X := ⟨_, rfl⟩
  rw [hX] at hx hlen ⊢
  have hbl : BODY.length ≤ X.length := by rw [hx]; exact parT_len _ _
  have HX := Lib.hid hx
  rw [hT] at C0
  have CY0 : Hid (∀ W v, NdVal W ok x0 v → Calls Tryz.prog 98 #[v, .int .i64 6] W fun e w' => e = .returned (.string ⟨(exT x0 6).toArray⟩) ∧ Below W.heap.size W w') := fun W v hv =>
    hx0 ok v (6) W hv (by omega) (by rw [← hBODY] at hbl; simp only [List.length_append] at hbl; omega)
  obtain ⟨Y0, hY0⟩ : ∃ Y, exT x0 6 = Y := ⟨_, rfl⟩
  rw [hY0] at CY0 hBODY
  have hbl2 := hbl
  rw [← hBODY] at hbl2
  simp only [List.length_append] at hbl2
  obtain ⟨A0, hA0⟩ : ∃ A, n ++ Y0 = A := ⟨_, rfl⟩
  rw [hA0] at hBODY
  have lA0 : A0.length = (n : List UInt8).length + (Y0 : List UInt8).length := by rw [← hA0, List.length_append]
  try simp only [List.length_cons, List.length_nil] at lA0
  have f0 : ∀ W, (Op.stringOp .add ⟨n.toArray⟩ ⟨Y0.toArray⟩).run Tryz.prog W = .ok (.string ⟨A0.toArray⟩) W := cat_run n Y0 _ hA0.symm (by simp; omega)
  have hfin : A0 = BODY := hBODY
  have g0 : ∀ W, (Op.stringOp .add ⟨#[40]⟩ ⟨A0.toArray⟩).run Tryz.prog W = .ok (.string ⟨([40] ++ A0).toArray⟩) W := cat_run [40] A0 _ rfl (by rw [hfin]; simp only [List.length_cons, List.length_nil]; omega)
  have g1 : ∀ W, (Op.stringOp .add ⟨([40] ++ A0).toArray⟩ ⟨#[41]⟩).run Tryz.prog W = .ok (.string ⟨([40] ++ A0 ++ [41]).toArray⟩) W := cat_run ([40] ++ A0) [41] _ rfl (by rw [hfin]; simp only [List.length_append, List.length_cons, List.length_nil]; omega)
  have HF := Lib.hid hfin
  obtain ⟨P0, hP0⟩ : ∃ P, [40] ++ A0 = P := ⟨_, rfl⟩
  obtain ⟨P1, hP1⟩ : ∃ P, P0 ++ [41] = P := ⟨_, rfl⟩
  rw [hP0] at g0 g1
  rw [hP1] at g1
  have HP : Hid (P1 = [40] ++ A0 ++ [41]) := by
    show _ = _
    rw [← hP1, ← hP0]
  have hrw := hrow.below hA
  obtain ⟨B, o, rfl, hat0, hrw⟩ := hrw
  unfold ndO at B0 HA C0 hat0
  clear hrw hrow hA hlen hx hX hT hbl hbl2 hfin hP0 hP1 hY0 lA0 hA0 hBODY 
  go_enter Tryz.func98, Tryz.ntmps98
  go_wp2_with fail
  generalize w.alloc (.cells #[.int .i64 12, .string ⟨n.toArray⟩, .slice (some ⟨B, o, none⟩) 1 c, .int .i64 p] 53) = wA at *
  refine (C0.out _ (Below.refl _ _)).mono ?_
  rintro e w2 ⟨rfl, hb2⟩
  obtain ⟨b0, b1, b2, b3⟩ := B0.out.below hb2
  have HB2 := Lib.hid (HA.out.trans (hb2.mono HA.out.size))
  obtain ⟨k0, nm0, z0, m0, cc0, q0, e0, x00, x01, x02, x03, hk0⟩ := (hat0.mono_below hb2).val
  clear C0 hb2
  have cEY0 := fun d os => Calls.regrown_of (CY0.out (grow (redrawn w2 d) os) (.agg #[.int .i64 k0, .string ⟨nm0.toArray⟩, .slice z0 m0.length cc0, .int .i64 q0]) (by rw [e0]; exact ⟨z0, cc0, rfl, hk0.below (below_regrown w2 d os)⟩))
  have rb1 := cell_regrown b1
  have rx00 := cell_regrown x00
  have rx01 := cell_regrown x01
  have rx02 := cell_regrown x02
  have rx03 := cell_regrown x03
  clear CY0 hk0 hat0 e0
  go_wp2_with fail
  refine wp_region_quiet_below (by kernel_rfl) (by kernel_rfl) ?_
  repeat (go_big_quiet_step (first | with_reducible exact cEY0 _ _))
  refine wpQuiet_nil ?_
  intro _ hw'
  obtain ⟨⟨dq, osq⟩, hw''⟩ := hw'
  subst hw''
  have hb3 := below_regrown w2 dq osq
  generalize grow (redrawn w2 dq) osq = w3 at *
  have HB3 := Lib.hid (HB2.out.trans (hb3.mono HB2.out.size))
  clear rb1 rx00 rx01 rx02 rx03 cEY0 hb3
  by_cases hq : T < a
  · have Q : (T : Int) < (a : Int) := by omega
    have HX2 : Hid (X = P1) := by
      show X = P1
      rw [HX.out, decide_eq_true hq, HP.out, HF.out]
      rfl
    clear hq HX HP HF
    go_wp2_with fail
    go_ret
    exact ⟨by rw [HX2.out]; rfl, HB3.out⟩
  · have Q : ¬ (T : Int) < (a : Int) := by omega
    have HX2 : Hid (X = A0) := by
      show X = A0
      rw [HX.out, decide_eq_false hq, HF.out]
      rfl
    clear hq HX HP HF
    go_wp2_with fail
    go_ret
    exact ⟨by rw [HX2.out]; rfl, HB3.out⟩
end Go.Proofs.YtpbkeamjdolpgaaGreatDoor
namespace Go.Proofs.YtpbkeamjdolpgaaGreatDoor
open Go.RowKit Go.Lib Go.Shelf Go.Sort

set_option maxHeartbeats 4000000 in
set_option maxRecDepth 100000 in
theorem rtx_index (_p0 : Int) (x0 x1 : Nd) (p : Int) (hx0 : RTx x0) (hx1 : RTx x1) : RTx (.mk 14 [] [x0, x1] p) := by
  intro ok v a w hv ha hlen
  obtain ⟨y, c, rfl, hrow⟩ := hv
  have hA : Below w.heap.size w (w.alloc (ndO 14 [] y 2 c p)) := (Below.refl _ _).alloc (Nat.le_refl _) _
  have B0 := Lib.hid (NdBox.new w 14 [] y 2 c p)
  have HA := Lib.hid hA
  have C0 : Hid (∀ W, Below (w.alloc (ndO 14 [] y 2 c p)).heap.size (w.alloc (ndO 14 [] y 2 c p)) W → Calls Tryz.prog 152 #[.agg #[.int .i64 14, .string ⟨([] : List UInt8).toArray⟩, .slice y 2 c, .int .i64 p]] W fun e w' => e = .returned (.int .i64 (tightR (.mk 14 [] [x0, x1] p))) ∧ Below W.heap.size W w') := fun W hW =>
    rtight_any ok (.mk 14 [] [x0, x1] p) (by show ([x0, x1] : List Nd).length < _; simp) _ W ⟨y, c, rfl, (hrow.below hA).below hW⟩
  obtain ⟨T, hT⟩ : ∃ T, tightR (.mk 14 [] [x0, x1] p) = T := ⟨_, rfl⟩
  have hTl : T < 50 := by
    rw [← hT]
    exact tightR_lt _
  obtain ⟨BODY, hBODY⟩ : ∃ b, ((exT x0 7 ++ [91]) ++ exT x1 0) ++ [93] = b := ⟨_, rfl⟩
  have hx : exT (.mk 14 [] [x0, x1] p) a = parT (decide (T < a)) BODY := by
    rw [← hBODY, ← hT]
    rw [exT]
    rfl
  obtain ⟨X, hX⟩ : ∃ X, exT (.mk 14 [] [x0, x1] p) a = X := ⟨_, rfl⟩
  rw [hX] at hx hlen ⊢
  have hbl : BODY.length ≤ X.length := by rw [hx]; exact parT_len _ _
  have HX := Lib.hid hx
  rw [hT] at C0
  have CY0 : Hid (∀ W v, NdVal W ok x0 v → Calls Tryz.prog 98 #[v, .int .i64 7] W fun e w' => e = .returned (.string ⟨(exT x0 7).toArray⟩) ∧ Below W.heap.size W w') := fun W v hv =>
    hx0 ok v (7) W hv (by omega) (by rw [← hBODY] at hbl; simp only [List.length_append] at hbl; omega)
  obtain ⟨Y0, hY0⟩ : ∃ Y, exT x0 7 = Y := ⟨_, rfl⟩
  rw [hY0] at CY0 hBODY
  have CY1 : Hid (∀ W v, NdVal W ok x1 v → Calls Tryz.prog 98 #[v, .int .i64 0] W fun e w' => e = .returned (.string ⟨(exT x1 0).toArray⟩) ∧ Below W.heap.size W w') := fun W v hv =>
    hx1 ok v (0) W hv (by omega) (by rw [← hBODY] at hbl; simp only [List.length_append] at hbl; omega)
  obtain ⟨Y1, hY1⟩ : ∃ Y, exT x1 0 = Y := ⟨_, rfl⟩
  rw [hY1] at CY1 hBODY
  have hbl2 := hbl
  rw [← hBODY] at hbl2
  simp only [List.length_append, List.length_cons, List.length_nil] at hbl2
  obtain ⟨A0, hA0⟩ : ∃ A, Y0 ++ [91] = A := ⟨_, rfl⟩
  rw [hA0] at hBODY
  have lA0 : A0.length = (Y0 : List UInt8).length + ([91] : List UInt8).length := by rw [← hA0, List.length_append]
  try simp only [List.length_cons, List.length_nil] at lA0
  have f0 : ∀ W, (Op.stringOp .add ⟨Y0.toArray⟩ ⟨#[91]⟩).run Tryz.prog W = .ok (.string ⟨A0.toArray⟩) W := cat_run Y0 [91] _ hA0.symm (by simp; omega)
  obtain ⟨A1, hA1⟩ : ∃ A, A0 ++ Y1 = A := ⟨_, rfl⟩
  rw [hA1] at hBODY
  have lA1 : A1.length = (A0 : List UInt8).length + (Y1 : List UInt8).length := by rw [← hA1, List.length_append]
  try simp only [List.length_cons, List.length_nil] at lA1
  have f1 : ∀ W, (Op.stringOp .add ⟨A0.toArray⟩ ⟨Y1.toArray⟩).run Tryz.prog W = .ok (.string ⟨A1.toArray⟩) W := cat_run A0 Y1 _ hA1.symm (by simp; omega)
  obtain ⟨A2, hA2⟩ : ∃ A, A1 ++ [93] = A := ⟨_, rfl⟩
  rw [hA2] at hBODY
  have lA2 : A2.length = (A1 : List UInt8).length + ([93] : List UInt8).length := by rw [← hA2, List.length_append]
  try simp only [List.length_cons, List.length_nil] at lA2
  have f2 : ∀ W, (Op.stringOp .add ⟨A1.toArray⟩ ⟨#[93]⟩).run Tryz.prog W = .ok (.string ⟨A2.toArray⟩) W := cat_run A1 [93] _ hA2.symm (by simp; omega)
  have hfin : A2 = BODY := hBODY
  have g0 : ∀ W, (Op.stringOp .add ⟨#[40]⟩ ⟨A2.toArray⟩).run Tryz.prog W = .ok (.string ⟨([40] ++ A2).toArray⟩) W := cat_run [40] A2 _ rfl (by rw [hfin]; simp only [List.length_cons, List.length_nil]; omega)
  have g1 : ∀ W, (Op.stringOp .add ⟨([40] ++ A2).toArray⟩ ⟨#[41]⟩).run Tryz.prog W = .ok (.string ⟨([40] ++ A2 ++ [41]).toArray⟩) W := cat_run ([40] ++ A2) [41] _ rfl (by rw [hfin]; simp only [List.length_append, List.length_cons, List.length_nil]; omega)
  have HF := Lib.hid hfin
  obtain ⟨P0, hP0⟩ : ∃ P, [40] ++ A2 = P := ⟨_, rfl⟩
  obtain ⟨P1, hP1⟩ : ∃ P, P0 ++ [41] = P := ⟨_, rfl⟩
  rw [hP0] at g0 g1
  rw [hP1] at g1
  have HP : Hid (P1 = [40] ++ A2 ++ [41]) := by
    show _ = _
    rw [← hP1, ← hP0]
  have hrw := hrow.below hA
  obtain ⟨B, o, rfl, hat0, hrw⟩ := hrw
  obtain ⟨B', o', e', hat1, hrw⟩ := hrw
  cases e'
  unfold ndO at B0 HA C0 hat0 hat1
  clear hrw hrow hA hlen hx hX hT hbl hbl2 hfin hP0 hP1 hY0 hY1 lA0 hA0 lA1 hA1 lA2 hA2 hBODY 
  go_enter Tryz.func98, Tryz.ntmps98
  go_wp2_with fail
  generalize w.alloc (.cells #[.int .i64 14, .string ⟨#[]⟩, .slice (some ⟨B, o, none⟩) 2 c, .int .i64 p] 53) = wA at *
  refine (C0.out _ (Below.refl _ _)).mono ?_
  rintro e w2 ⟨rfl, hb2⟩
  obtain ⟨b0, b1, b2, b3⟩ := B0.out.below hb2
  have HB2 := Lib.hid (HA.out.trans (hb2.mono HA.out.size))
  obtain ⟨k0, nm0, z0, m0, cc0, q0, e0, x00, x01, x02, x03, hk0⟩ := (hat0.mono_below hb2).val
  obtain ⟨k1, nm1, z1, m1, cc1, q1, e1, x10, x11, x12, x13, hk1⟩ := (hat1.mono_below hb2).val
  clear C0 hb2
  have cEY0 := fun d os => Calls.regrown_of (CY0.out (grow (redrawn w2 d) os) (.agg #[.int .i64 k0, .string ⟨nm0.toArray⟩, .slice z0 m0.length cc0, .int .i64 q0]) (by rw [e0]; exact ⟨z0, cc0, rfl, hk0.below (below_regrown w2 d os)⟩))
  have cEY1 := fun d os => Calls.regrown_of (CY1.out (grow (redrawn w2 d) os) (.agg #[.int .i64 k1, .string ⟨nm1.toArray⟩, .slice z1 m1.length cc1, .int .i64 q1]) (by rw [e1]; exact ⟨z1, cc1, rfl, hk1.below (below_regrown w2 d os)⟩))
  have rb1 := cell_regrown b1
  have rx00 := cell_regrown x00
  have rx01 := cell_regrown x01
  have rx02 := cell_regrown x02
  have rx03 := cell_regrown x03
  have rx10 := cell_regrown x10
  have rx11 := cell_regrown x11
  have rx12 := cell_regrown x12
  have rx13 := cell_regrown x13
  clear CY0 CY1 hk0 hat0 hk1 hat1 e0 e1
  go_wp2_with fail
  refine wp_region_quiet_below (by kernel_rfl) (by kernel_rfl) ?_
  repeat (go_big_quiet_step (first | with_reducible exact cEY0 _ _ | with_reducible exact cEY1 _ _))
  refine wpQuiet_nil ?_
  intro _ hw'
  obtain ⟨⟨dq, osq⟩, hw''⟩ := hw'
  subst hw''
  have hb3 := below_regrown w2 dq osq
  generalize grow (redrawn w2 dq) osq = w3 at *
  have HB3 := Lib.hid (HB2.out.trans (hb3.mono HB2.out.size))
  clear rb1 rx00 rx01 rx02 rx03 rx10 rx11 rx12 rx13 cEY0 cEY1 hb3
  by_cases hq : T < a
  · have Q : (T : Int) < (a : Int) := by omega
    have HX2 : Hid (X = P1) := by
      show X = P1
      rw [HX.out, decide_eq_true hq, HP.out, HF.out]
      rfl
    clear hq HX HP HF
    go_wp2_with fail
    go_ret
    exact ⟨by rw [HX2.out]; rfl, HB3.out⟩
  · have Q : ¬ (T : Int) < (a : Int) := by omega
    have HX2 : Hid (X = A2) := by
      show X = A2
      rw [HX.out, decide_eq_false hq, HF.out]
      rfl
    clear hq HX HP HF
    go_wp2_with fail
    go_ret
    exact ⟨by rw [HX2.out]; rfl, HB3.out⟩
end Go.Proofs.YtpbkeamjdolpgaaGreatDoor
namespace Go.Proofs.YtpbkeamjdolpgaaGreatDoor
open Go.RowKit Go.Lib Go.Shelf Go.Sort

set_option maxHeartbeats 4000000 in
set_option maxRecDepth 100000 in
theorem rtx_two3 (n : List UInt8) (x0 x1 : Nd) (p : Int) (hx0 : RTx x0) (hx1 : RTx x1) (h3 : levelS n = 3) : RTx (.mk 12 n [x0, x1] p) := by
  intro ok v a w hv ha hlen
  obtain ⟨y, c, rfl, hrow⟩ := hv
  have hA : Below w.heap.size w (w.alloc (ndO 12 n y 2 c p)) := (Below.refl _ _).alloc (Nat.le_refl _) _
  have B0 := Lib.hid (NdBox.new w 12 n y 2 c p)
  have HA := Lib.hid hA
  have C0 : Hid (∀ W, Below (w.alloc (ndO 12 n y 2 c p)).heap.size (w.alloc (ndO 12 n y 2 c p)) W → Calls Tryz.prog 152 #[.agg #[.int .i64 12, .string ⟨n.toArray⟩, .slice y 2 c, .int .i64 p]] W fun e w' => e = .returned (.int .i64 (tightR (.mk 12 n [x0, x1] p))) ∧ Below W.heap.size W w') := fun W hW =>
    rtight_any ok (.mk 12 n [x0, x1] p) (by show ([x0, x1] : List Nd).length < _; simp) _ W ⟨y, c, rfl, (hrow.below hA).below hW⟩
  obtain ⟨T, hT⟩ : ∃ T, tightR (.mk 12 n [x0, x1] p) = T := ⟨_, rfl⟩
  have hTl : T < 50 := by
    rw [← hT]
    exact tightR_lt _
  have h3T : T = 3 := by rw [← hT]; exact h3
  have Q3 : ((T : Int) == 3) = true := by rw [h3T]; rfl
  obtain ⟨BODY, hBODY⟩ : ∃ b, (((exT x0 4 ++ [32]) ++ n) ++ [32]) ++ exT x1 4 = b := ⟨_, rfl⟩
  have hx : exT (.mk 12 n [x0, x1] p) a = parT (decide (T < a)) BODY := by
    rw [← hBODY, ← hT]
    rw [exT, show asksR 12 (tightR (.mk 12 n [x0, x1] p)) [x0, x1].length = [4, 4] by rw [show tightR (.mk 12 n [x0, x1] p) = 3 from h3]; rfl]
    show parT _ (exT x0 4 ++ ([32] ++ n ++ [32]) ++ exT x1 4) = _
    simp only [List.append_assoc]
  obtain ⟨X, hX⟩ : ∃ X, exT (.mk 12 n [x0, x1] p) a = X := ⟨_, rfl⟩
  rw [hX] at hx hlen ⊢
  have hbl : BODY.length ≤ X.length := by rw [hx]; exact parT_len _ _
  have HX := Lib.hid hx
  rw [hT] at C0
  have CY0 : Hid (∀ W v, NdVal W ok x0 v → Calls Tryz.prog 98 #[v, .int .i64 4] W fun e w' => e = .returned (.string ⟨(exT x0 4).toArray⟩) ∧ Below W.heap.size W w') := fun W v hv =>
    hx0 ok v (4) W hv (by omega) (by rw [← hBODY] at hbl; simp only [List.length_append] at hbl; omega)
  obtain ⟨Y0, hY0⟩ : ∃ Y, exT x0 4 = Y := ⟨_, rfl⟩
  rw [hY0] at CY0 hBODY
  have CY1 : Hid (∀ W v, NdVal W ok x1 v → Calls Tryz.prog 98 #[v, .int .i64 4] W fun e w' => e = .returned (.string ⟨(exT x1 4).toArray⟩) ∧ Below W.heap.size W w') := fun W v hv =>
    hx1 ok v (4) W hv (by omega) (by rw [← hBODY] at hbl; simp only [List.length_append] at hbl; omega)
  obtain ⟨Y1, hY1⟩ : ∃ Y, exT x1 4 = Y := ⟨_, rfl⟩
  rw [hY1] at CY1 hBODY
  have hbl2 := hbl
  rw [← hBODY] at hbl2
  simp only [List.length_append, List.length_cons, List.length_nil] at hbl2
  obtain ⟨A0, hA0⟩ : ∃ A, Y0 ++ [32] = A := ⟨_, rfl⟩
  rw [hA0] at hBODY
  have lA0 : A0.length = (Y0 : List UInt8).length + ([32] : List UInt8).length := by rw [← hA0, List.length_append]
  try simp only [List.length_cons, List.length_nil] at lA0
  have f0 : ∀ W, (Op.stringOp .add ⟨Y0.toArray⟩ ⟨#[32]⟩).run Tryz.prog W = .ok (.string ⟨A0.toArray⟩) W := cat_run Y0 [32] _ hA0.symm (by simp; omega)
  obtain ⟨A1, hA1⟩ : ∃ A, A0 ++ n = A := ⟨_, rfl⟩
  rw [hA1] at hBODY
  have lA1 : A1.length = (A0 : List UInt8).length + (n : List UInt8).length := by rw [← hA1, List.length_append]
  try simp only [List.length_cons, List.length_nil] at lA1
  have f1 : ∀ W, (Op.stringOp .add ⟨A0.toArray⟩ ⟨n.toArray⟩).run Tryz.prog W = .ok (.string ⟨A1.toArray⟩) W := cat_run A0 n _ hA1.symm (by simp; omega)
  obtain ⟨A2, hA2⟩ : ∃ A, A1 ++ [32] = A := ⟨_, rfl⟩
  rw [hA2] at hBODY
  have lA2 : A2.length = (A1 : List UInt8).length + ([32] : List UInt8).length := by rw [← hA2, List.length_append]
  try simp only [List.length_cons, List.length_nil] at lA2
  have f2 : ∀ W, (Op.stringOp .add ⟨A1.toArray⟩ ⟨#[32]⟩).run Tryz.prog W = .ok (.string ⟨A2.toArray⟩) W := cat_run A1 [32] _ hA2.symm (by simp; omega)
  obtain ⟨A3, hA3⟩ : ∃ A, A2 ++ Y1 = A := ⟨_, rfl⟩
  rw [hA3] at hBODY
  have lA3 : A3.length = (A2 : List UInt8).length + (Y1 : List UInt8).length := by rw [← hA3, List.length_append]
  try simp only [List.length_cons, List.length_nil] at lA3
  have f3 : ∀ W, (Op.stringOp .add ⟨A2.toArray⟩ ⟨Y1.toArray⟩).run Tryz.prog W = .ok (.string ⟨A3.toArray⟩) W := cat_run A2 Y1 _ hA3.symm (by simp; omega)
  have hfin : A3 = BODY := hBODY
  have g0 : ∀ W, (Op.stringOp .add ⟨#[40]⟩ ⟨A3.toArray⟩).run Tryz.prog W = .ok (.string ⟨([40] ++ A3).toArray⟩) W := cat_run [40] A3 _ rfl (by rw [hfin]; simp only [List.length_cons, List.length_nil]; omega)
  have g1 : ∀ W, (Op.stringOp .add ⟨([40] ++ A3).toArray⟩ ⟨#[41]⟩).run Tryz.prog W = .ok (.string ⟨([40] ++ A3 ++ [41]).toArray⟩) W := cat_run ([40] ++ A3) [41] _ rfl (by rw [hfin]; simp only [List.length_append, List.length_cons, List.length_nil]; omega)
  have HF := Lib.hid hfin
  obtain ⟨P0, hP0⟩ : ∃ P, [40] ++ A3 = P := ⟨_, rfl⟩
  obtain ⟨P1, hP1⟩ : ∃ P, P0 ++ [41] = P := ⟨_, rfl⟩
  rw [hP0] at g0 g1
  rw [hP1] at g1
  have HP : Hid (P1 = [40] ++ A3 ++ [41]) := by
    show _ = _
    rw [← hP1, ← hP0]
  have hrw := hrow.below hA
  obtain ⟨B, o, rfl, hat0, hrw⟩ := hrw
  obtain ⟨B', o', e', hat1, hrw⟩ := hrw
  cases e'
  unfold ndO at B0 HA C0 hat0 hat1
  clear hrw hrow hA hlen hx hX hT hbl hbl2 hfin hP0 hP1 hY0 hY1 lA0 hA0 lA1 hA1 lA2 hA2 lA3 hA3 hBODY h3T h3 hTl
  go_enter Tryz.func98, Tryz.ntmps98
  go_wp2_with fail
  generalize w.alloc (.cells #[.int .i64 12, .string ⟨n.toArray⟩, .slice (some ⟨B, o, none⟩) 2 c, .int .i64 p] 53) = wA at *
  refine (C0.out _ (Below.refl _ _)).mono ?_
  rintro e w2 ⟨rfl, hb2⟩
  obtain ⟨b0, b1, b2, b3⟩ := B0.out.below hb2
  have HB2 := Lib.hid (HA.out.trans (hb2.mono HA.out.size))
  obtain ⟨k0, nm0, z0, m0, cc0, q0, e0, x00, x01, x02, x03, hk0⟩ := (hat0.mono_below hb2).val
  obtain ⟨k1, nm1, z1, m1, cc1, q1, e1, x10, x11, x12, x13, hk1⟩ := (hat1.mono_below hb2).val
  clear C0 hb2
  have cEY0 := fun d os => Calls.regrown_of (CY0.out (grow (redrawn w2 d) os) (.agg #[.int .i64 k0, .string ⟨nm0.toArray⟩, .slice z0 m0.length cc0, .int .i64 q0]) (by rw [e0]; exact ⟨z0, cc0, rfl, hk0.below (below_regrown w2 d os)⟩))
  have cEY1 := fun d os => Calls.regrown_of (CY1.out (grow (redrawn w2 d) os) (.agg #[.int .i64 k1, .string ⟨nm1.toArray⟩, .slice z1 m1.length cc1, .int .i64 q1]) (by rw [e1]; exact ⟨z1, cc1, rfl, hk1.below (below_regrown w2 d os)⟩))
  have rb1 := cell_regrown b1
  have rx00 := cell_regrown x00
  have rx01 := cell_regrown x01
  have rx02 := cell_regrown x02
  have rx03 := cell_regrown x03
  have rx10 := cell_regrown x10
  have rx11 := cell_regrown x11
  have rx12 := cell_regrown x12
  have rx13 := cell_regrown x13
  clear CY0 CY1 hk0 hat0 hk1 hat1 e0 e1
  go_wp2_with fail
  refine wp_region_quiet_below (by kernel_rfl) (by kernel_rfl) ?_
  repeat (go_big_quiet_step (first | with_reducible exact cEY0 _ _ | with_reducible exact cEY1 _ _))
  refine wpQuiet_nil ?_
  intro _ hw'
  obtain ⟨⟨dq, osq⟩, hw''⟩ := hw'
  subst hw''
  have hb3 := below_regrown w2 dq osq
  generalize grow (redrawn w2 dq) osq = w3 at *
  have HB3 := Lib.hid (HB2.out.trans (hb3.mono HB2.out.size))
  clear rb1 rx00 rx01 rx02 rx03 rx10 rx11 rx12 rx13 cEY0 cEY1 hb3
  by_cases hq : T < a
  · have Q : (T : Int) < (a : Int) := by omega
    have HX2 : Hid (X = P1) := by
      show X = P1
      rw [HX.out, decide_eq_true hq, HP.out, HF.out]
      rfl
    clear hq HX HP HF
    go_wp2_with fail
    go_ret
    exact ⟨by rw [HX2.out]; rfl, HB3.out⟩
  · have Q : ¬ (T : Int) < (a : Int) := by omega
    have HX2 : Hid (X = A3) := by
      show X = A3
      rw [HX.out, decide_eq_false hq, HF.out]
      rfl
    clear hq HX HP HF
    go_wp2_with fail
    go_ret
    exact ⟨by rw [HX2.out]; rfl, HB3.out⟩
end Go.Proofs.YtpbkeamjdolpgaaGreatDoor
namespace Go.Proofs.YtpbkeamjdolpgaaGreatDoor
open Go.RowKit Go.Lib Go.Shelf Go.Sort

set_option maxHeartbeats 4000000 in
set_option maxRecDepth 100000 in
theorem rtx_two (n : List UInt8) (x0 x1 : Nd) (p : Int) (hx0 : RTx x0) (hx1 : RTx x1) (h3 : levelS n ≠ 3) : RTx (.mk 12 n [x0, x1] p) := by
  intro ok v a w hv ha hlen
  obtain ⟨y, c, rfl, hrow⟩ := hv
  have hA : Below w.heap.size w (w.alloc (ndO 12 n y 2 c p)) := (Below.refl _ _).alloc (Nat.le_refl _) _
  have B0 := Lib.hid (NdBox.new w 12 n y 2 c p)
  have HA := Lib.hid hA
  have C0 : Hid (∀ W, Below (w.alloc (ndO 12 n y 2 c p)).heap.size (w.alloc (ndO 12 n y 2 c p)) W → Calls Tryz.prog 152 #[.agg #[.int .i64 12, .string ⟨n.toArray⟩, .slice y 2 c, .int .i64 p]] W fun e w' => e = .returned (.int .i64 (tightR (.mk 12 n [x0, x1] p))) ∧ Below W.heap.size W w') := fun W hW =>
    rtight_any ok (.mk 12 n [x0, x1] p) (by show ([x0, x1] : List Nd).length < _; simp) _ W ⟨y, c, rfl, (hrow.below hA).below hW⟩
  obtain ⟨T, hT⟩ : ∃ T, tightR (.mk 12 n [x0, x1] p) = T := ⟨_, rfl⟩
  have hTl : T < 50 := by
    rw [← hT]
    exact tightR_lt _
  have h3T : T ≠ 3 := by rw [← hT]; exact h3
  have Q3 : ((T : Int) == 3) = false := beq_eq_false_iff_ne.2 (by omega)
  have QT : IntKind.i64.wrap ((T : Int) + 1) = (T : Int) + 1 := IntWalk.i64_in _ (by omega)
  obtain ⟨BODY, hBODY⟩ : ∃ b, (((exT x0 T ++ [32]) ++ n) ++ [32]) ++ exT x1 (T + 1) = b := ⟨_, rfl⟩
  have hx : exT (.mk 12 n [x0, x1] p) a = parT (decide (T < a)) BODY := by
    rw [← hBODY, ← hT]
    rw [exT, show asksR 12 (tightR (.mk 12 n [x0, x1] p)) [x0, x1].length = [tightR (.mk 12 n [x0, x1] p), tightR (.mk 12 n [x0, x1] p) + 1] by unfold asksR; rw [if_neg (by decide), if_pos rfl, if_neg (by simp), if_neg (show ¬ tightR (.mk 12 n [x0, x1] p) = 3 from h3)]]
    show parT _ (exT x0 (tightR (.mk 12 n [x0, x1] p)) ++ ([32] ++ n ++ [32]) ++ exT x1 (tightR (.mk 12 n [x0, x1] p) + 1)) = _
    rw [hT]
    simp only [List.append_assoc]
  obtain ⟨X, hX⟩ : ∃ X, exT (.mk 12 n [x0, x1] p) a = X := ⟨_, rfl⟩
  rw [hX] at hx hlen ⊢
  have hbl : BODY.length ≤ X.length := by rw [hx]; exact parT_len _ _
  have HX := Lib.hid hx
  rw [hT] at C0
  have CY0 : Hid (∀ W v, NdVal W ok x0 v → Calls Tryz.prog 98 #[v, .int .i64 T] W fun e w' => e = .returned (.string ⟨(exT x0 T).toArray⟩) ∧ Below W.heap.size W w') := fun W v hv =>
    hx0 ok v (T) W hv (by omega) (by rw [← hBODY] at hbl; simp only [List.length_append] at hbl; omega)
  obtain ⟨Y0, hY0⟩ : ∃ Y, exT x0 T = Y := ⟨_, rfl⟩
  rw [hY0] at CY0 hBODY
  have CY1 : Hid (∀ W v, NdVal W ok x1 v → Calls Tryz.prog 98 #[v, .int .i64 ((T : Int) + 1)] W fun e w' => e = .returned (.string ⟨(exT x1 (T + 1)).toArray⟩) ∧ Below W.heap.size W w') := fun W v hv =>
    hx1 ok v ((T + 1)) W hv (by omega) (by rw [← hBODY] at hbl; simp only [List.length_append] at hbl; omega)
  obtain ⟨Y1, hY1⟩ : ∃ Y, exT x1 (T + 1) = Y := ⟨_, rfl⟩
  rw [hY1] at CY1 hBODY
  have hbl2 := hbl
  rw [← hBODY] at hbl2
  simp only [List.length_append, List.length_cons, List.length_nil] at hbl2
  obtain ⟨A0, hA0⟩ : ∃ A, Y0 ++ [32] = A := ⟨_, rfl⟩
  rw [hA0] at hBODY
  have lA0 : A0.length = (Y0 : List UInt8).length + ([32] : List UInt8).length := by rw [← hA0, List.length_append]
  try simp only [List.length_cons, List.length_nil] at lA0
  have f0 : ∀ W, (Op.stringOp .add ⟨Y0.toArray⟩ ⟨#[32]⟩).run Tryz.prog W = .ok (.string ⟨A0.toArray⟩) W := cat_run Y0 [32] _ hA0.symm (by simp; omega)
  obtain ⟨A1, hA1⟩ : ∃ A, A0 ++ n = A := ⟨_, rfl⟩
  rw [hA1] at hBODY
  have lA1 : A1.length = (A0 : List UInt8).length + (n : List UInt8).length := by rw [← hA1, List.length_append]
  try simp only [List.length_cons, List.length_nil] at lA1
  have f1 : ∀ W, (Op.stringOp .add ⟨A0.toArray⟩ ⟨n.toArray⟩).run Tryz.prog W = .ok (.string ⟨A1.toArray⟩) W := cat_run A0 n _ hA1.symm (by simp; omega)
  obtain ⟨A2, hA2⟩ : ∃ A, A1 ++ [32] = A := ⟨_, rfl⟩
  rw [hA2] at hBODY
  have lA2 : A2.length = (A1 : List UInt8).length + ([32] : List UInt8).length := by rw [← hA2, List.length_append]
  try simp only [List.length_cons, List.length_nil] at lA2
  have f2 : ∀ W, (Op.stringOp .add ⟨A1.toArray⟩ ⟨#[32]⟩).run Tryz.prog W = .ok (.string ⟨A2.toArray⟩) W := cat_run A1 [32] _ hA2.symm (by simp; omega)
  obtain ⟨A3, hA3⟩ : ∃ A, A2 ++ Y1 = A := ⟨_, rfl⟩
  rw [hA3] at hBODY
  have lA3 : A3.length = (A2 : List UInt8).length + (Y1 : List UInt8).length := by rw [← hA3, List.length_append]
  try simp only [List.length_cons, List.length_nil] at lA3
  have f3 : ∀ W, (Op.stringOp .add ⟨A2.toArray⟩ ⟨Y1.toArray⟩).run Tryz.prog W = .ok (.string ⟨A3.toArray⟩) W := cat_run A2 Y1 _ hA3.symm (by simp; omega)
  have hfin : A3 = BODY := hBODY
  have g0 : ∀ W, (Op.stringOp .add ⟨#[40]⟩ ⟨A3.toArray⟩).run Tryz.prog W = .ok (.string ⟨([40] ++ A3).toArray⟩) W := cat_run [40] A3 _ rfl (by rw [hfin]; simp only [List.length_cons, List.length_nil]; omega)
  have g1 : ∀ W, (Op.stringOp .add ⟨([40] ++ A3).toArray⟩ ⟨#[41]⟩).run Tryz.prog W = .ok (.string ⟨([40] ++ A3 ++ [41]).toArray⟩) W := cat_run ([40] ++ A3) [41] _ rfl (by rw [hfin]; simp only [List.length_append, List.length_cons, List.length_nil]; omega)
  have HF := Lib.hid hfin
  obtain ⟨P0, hP0⟩ : ∃ P, [40] ++ A3 = P := ⟨_, rfl⟩
  obtain ⟨P1, hP1⟩ : ∃ P, P0 ++ [41] = P := ⟨_, rfl⟩
  rw [hP0] at g0 g1
  rw [hP1] at g1
  have HP : Hid (P1 = [40] ++ A3 ++ [41]) := by
    show _ = _
    rw [← hP1, ← hP0]
  have hrw := hrow.below hA
  obtain ⟨B, o, rfl, hat0, hrw⟩ := hrw
  obtain ⟨B', o', e', hat1, hrw⟩ := hrw
  cases e'
  unfold ndO at B0 HA C0 hat0 hat1
  clear hrw hrow hA hlen hx hX hT hbl hbl2 hfin hP0 hP1 hY0 hY1 lA0 hA0 lA1 hA1 lA2 hA2 lA3 hA3 hBODY h3T h3 hTl
  go_enter Tryz.func98, Tryz.ntmps98
  go_wp2_with fail
  generalize w.alloc (.cells #[.int .i64 12, .string ⟨n.toArray⟩, .slice (some ⟨B, o, none⟩) 2 c, .int .i64 p] 53) = wA at *
  refine (C0.out _ (Below.refl _ _)).mono ?_
  rintro e w2 ⟨rfl, hb2⟩
  obtain ⟨b0, b1, b2, b3⟩ := B0.out.below hb2
  have HB2 := Lib.hid (HA.out.trans (hb2.mono HA.out.size))
  obtain ⟨k0, nm0, z0, m0, cc0, q0, e0, x00, x01, x02, x03, hk0⟩ := (hat0.mono_below hb2).val
  obtain ⟨k1, nm1, z1, m1, cc1, q1, e1, x10, x11, x12, x13, hk1⟩ := (hat1.mono_below hb2).val
  clear C0 hb2
  have cEY0 := fun d os => Calls.regrown_of (CY0.out (grow (redrawn w2 d) os) (.agg #[.int .i64 k0, .string ⟨nm0.toArray⟩, .slice z0 m0.length cc0, .int .i64 q0]) (by rw [e0]; exact ⟨z0, cc0, rfl, hk0.below (below_regrown w2 d os)⟩))
  have cEY1 := fun d os => Calls.regrown_of (CY1.out (grow (redrawn w2 d) os) (.agg #[.int .i64 k1, .string ⟨nm1.toArray⟩, .slice z1 m1.length cc1, .int .i64 q1]) (by rw [e1]; exact ⟨z1, cc1, rfl, hk1.below (below_regrown w2 d os)⟩))
  have rb1 := cell_regrown b1
  have rx00 := cell_regrown x00
  have rx01 := cell_regrown x01
  have rx02 := cell_regrown x02
  have rx03 := cell_regrown x03
  have rx10 := cell_regrown x10
  have rx11 := cell_regrown x11
  have rx12 := cell_regrown x12
  have rx13 := cell_regrown x13
  clear CY0 CY1 hk0 hat0 hk1 hat1 e0 e1
  go_wp2_with fail
  refine wp_region_quiet_below (by kernel_rfl) (by kernel_rfl) ?_
  repeat (go_big_quiet_step (first | with_reducible exact cEY0 _ _ | with_reducible exact cEY1 _ _))
  refine wpQuiet_nil ?_
  intro _ hw'
  obtain ⟨⟨dq, osq⟩, hw''⟩ := hw'
  subst hw''
  have hb3 := below_regrown w2 dq osq
  generalize grow (redrawn w2 dq) osq = w3 at *
  have HB3 := Lib.hid (HB2.out.trans (hb3.mono HB2.out.size))
  clear rb1 rx00 rx01 rx02 rx03 rx10 rx11 rx12 rx13 cEY0 cEY1 hb3
  by_cases hq : T < a
  · have Q : (T : Int) < (a : Int) := by omega
    have HX2 : Hid (X = P1) := by
      show X = P1
      rw [HX.out, decide_eq_true hq, HP.out, HF.out]
      rfl
    clear hq HX HP HF
    go_wp2_with fail
    go_ret
    exact ⟨by rw [HX2.out]; rfl, HB3.out⟩
  · have Q : ¬ (T : Int) < (a : Int) := by omega
    have HX2 : Hid (X = A3) := by
      show X = A3
      rw [HX.out, decide_eq_false hq, HF.out]
      rfl
    clear hq HX HP HF
    go_wp2_with fail
    go_ret
    exact ⟨by rw [HX2.out]; rfl, HB3.out⟩
end Go.Proofs.YtpbkeamjdolpgaaGreatDoor
