/- The walks of the parser's methods that ask, and that give up. The walk of the parser's rows. The walks of the parser's names, parameters and arguments. The walk of tree.deep. -/
import Derived.Test.YtpbkeamjdolpgaaGreatDoorB02
import Derived.Shelf.Abstract
namespace Go.Proofs.YtpbkeamjdolpgaaGreatDoor
open Go.RowKit Go.Lib


set_option maxHeartbeats 4000000 in
set_option maxRecDepth 100000 in
/-- The parser gives up: a fault at the token that stands here. -/
theorem give_any (C : Ctx) (p : Nat) (w : World) (h : PSt C w p) :
    Calls Tryz.prog 159 #[.pointer (some ⟨C.pb, 0, none⟩)] w fun e w' => Dead w w' (270, placeT C.ts C.s.size p, textT C.ts p) e ∧ Below w.heap.size w w' := by
  have c := token_any C p w h
  clear h
  obtain ⟨k, hk⟩ : ∃ k, kindT C.ts p = k := ⟨_, rfl⟩
  obtain ⟨t, ht⟩ : ∃ t, textT C.ts p = t := ⟨_, rfl⟩
  obtain ⟨q, hq⟩ : ∃ q, placeT C.ts C.s.size p = q := ⟨_, rfl⟩
  rw [hk, ht, hq] at c
  rw [ht, hq]
  clear hk ht hq
  go_enter Tryz.func159, Tryz.ntmps159
  go_wp2_with (first | (go_at_call 102; (with_reducible refine c.mono ?_); rintro e w1 ⟨rfl, hb1⟩))
  exact ⟨rfl, ⟨w1.heap.size + 1, by have := hb1.size; omega, rfl, heap_alloc2_new w1 _ _⟩, ((hb1.alloc hb1.size _).alloc (by have := hb1.size; simp; omega) _)⟩

set_option maxHeartbeats 4000000 in
set_option maxRecDepth 100000 in
/-- Does a sign, or a reserved word, stand here? -/
theorem is_any (C : Ctx) (p : Nat) (s : List UInt8) (w : World) (h : PSt C w p) :
    Calls Tryz.prog 111 #[.pointer (some ⟨C.pb, 0, none⟩), .string ⟨s.toArray⟩] w fun e w' => e = .returned (.bool (isT C.ts p s)) ∧ Below w.heap.size w w' := by
  have c := token_any C p w h
  have cr := reserved_any s
  clear h
  have hI : isT C.ts p s = (decide (textT C.ts p = s) && (decide (kindT C.ts p = 2) || (decide (kindT C.ts p = 0) && resv s))) := rfl
  obtain ⟨B, hB⟩ : ∃ B, isT C.ts p s = B := ⟨_, rfl⟩
  obtain ⟨k, hk⟩ : ∃ k, kindT C.ts p = k := ⟨_, rfl⟩
  obtain ⟨t, ht⟩ : ∃ t, textT C.ts p = t := ⟨_, rfl⟩
  obtain ⟨q, hq⟩ : ∃ q, placeT C.ts C.s.size p = q := ⟨_, rfl⟩
  obtain ⟨r, hr⟩ : ∃ r, resv s = r := ⟨_, rfl⟩
  rw [hB, hk, ht, hr] at hI
  rw [hk, ht, hq] at c
  rw [hr] at cr
  rw [hB]
  clear hB hk ht hq hr
  by_cases h1 : t = s
  · subst h1
    by_cases h2 : k = 2
    · subst h2
      have H : B = true := by simpa using hI
      subst H
      clear hI
      go_enter Tryz.func111, Tryz.ntmps111
      go_wp2_with (first | (go_at_call 102; (with_reducible refine c.mono ?_); rintro e w1 ⟨rfl, hb1⟩))
      go_ret
      exact ⟨rfl, hb1.alloc hb1.size _⟩
    · have Q2 : (k == 2) = false := beq_eq_false_iff_ne.2 h2
      by_cases h3 : k = 0
      · subst h3
        have H : B = r := by simpa using hI
        subst H
        clear hI
        go_enter Tryz.func111, Tryz.ntmps111
        go_wp2_with (first | (go_at_call 102; (with_reducible refine c.mono ?_); rintro e w1 ⟨rfl, hb1⟩) | (go_at_call 150; (with_reducible refine (cr _).mono ?_); rintro e w2 ⟨rfl, hb2⟩))
        go_ret
        exact ⟨rfl, tr (hb1.alloc hb1.size _) hb2⟩
      · have Q3 : (k == 0) = false := beq_eq_false_iff_ne.2 h3
        have H : B = false := by simpa [h2, h3] using hI
        subst H
        clear hI
        go_enter Tryz.func111, Tryz.ntmps111
        go_wp2_with (first | (go_at_call 102; (with_reducible refine c.mono ?_); rintro e w1 ⟨rfl, hb1⟩))
        go_ret
        exact ⟨rfl, hb1.alloc hb1.size _⟩
  · have Q1 := str_ne h1
    have H : B = false := by simpa [h1] using hI
    subst H
    clear hI
    go_enter Tryz.func111, Tryz.ntmps111
    go_wp2_with (first | (go_at_call 102; (with_reducible refine c.mono ?_); rintro e w1 ⟨rfl, hb1⟩))
    go_ret
    exact ⟨rfl, hb1.alloc hb1.size _⟩

set_option maxHeartbeats 4000000 in
set_option maxRecDepth 100000 in
theorem skip_any (C : Ctx) (p : Nat) (s : List UInt8) (w : World) (h : PSt C w p) :
    Calls Tryz.prog 104 #[.pointer (some ⟨C.pb, 0, none⟩), .string ⟨s.toArray⟩] w fun e w' =>
      (isT C.ts p s = true ∧ e = .returned (.bool true) ∧ PSt C w' (p + 1) ∧ Ow C.pb w w') ∨ (isT C.ts p s = false ∧ e = .returned (.bool false) ∧ Below w.heap.size w w') := by
  have c := is_any C p s w h
  cases hB : isT C.ts p s
  · rw [hB] at c
    clear h hB
    go_enter Tryz.func104, Tryz.ntmps104
    go_wp2_with (first | (go_at_call 111; (with_reducible refine c.mono ?_); rintro e w1 ⟨rfl, hb1⟩))
    go_ret
    exact .inr ⟨trivial, rfl, hb1⟩
  · rw [hB] at c
    have hp := isT_lt hB
    have hl := h.len
    have H := Lib.hid h
    have hS : ∀ w1, Below w.heap.size w w1 → w1.cell? ⟨C.pb, 2, none⟩ = some (.int .i64 p) ∧ w1.frozen? ⟨C.pb, 2, none⟩ = false ∧ Hid (PSt C w1 p) := fun w1 hb => ⟨(h.below hb).cells.2.2.1, (h.below hb).cells.2.2.2, h.below hb⟩
    have X1 : IntKind.i64.wrap ((p : Int) + 1) = ((p + 1 : Nat) : Int) := by rw [IntWalk.i64_in _ (by omega)]; simp
    obtain ⟨n, hn⟩ : ∃ n, C.ts.length = n := ⟨_, rfl⟩
    have HN := Lib.hid hn
    rw [hn] at hp hl
    clear h hB hn
    go_enter Tryz.func104, Tryz.ntmps104
    go_wp2_with (first | (go_at_call 111; (with_reducible refine c.mono ?_); rintro e w1 ⟨rfl, hb1⟩; obtain ⟨k1, k2, k3⟩ := hS w1 hb1))
    go_ret
    refine .inl ⟨trivial, rfl, ?_, (Ow.of_below hb1).setCell (a := ⟨C.pb, 2, none⟩) (.inl rfl) _⟩
    exact k3.out.step (q := p + 1) (by rw [HN.out]; omega)

set_option maxHeartbeats 4000000 in
set_option maxRecDepth 100000 in
theorem take_any (C : Ctx) (p : Nat) (s : List UInt8) (w : World) (h : PSt C w p) :
    Calls Tryz.prog 108 #[.pointer (some ⟨C.pb, 0, none⟩), .string ⟨s.toArray⟩] w (Fin C w (takeP C.ts C.s.size s p) fun a _ v => v = .int .i64 a) := by
  have F2 := fld2
  have c0 := token_any C p w h
  have c1 := fun w1 (hb : Below w.heap.size w w1) => skip_any C p s w1 (h.below hb)
  have c2 := fun w1 (hb : Below w.heap.size w w1) => give_any C p w1 (h.below hb)
  have hT : takeP C.ts C.s.size s p = if isT C.ts p s then .ok (placeT C.ts C.s.size p) (p + 1) else .bad p := rfl
  obtain ⟨q, hq⟩ : ∃ q, placeT C.ts C.s.size p = q := ⟨_, rfl⟩
  rw [hq] at c0 hT
  have H := Lib.hid h
  have HQ := Lib.hid hq
  cases hB : isT C.ts p s
  · rw [hB] at c1 hT
    have HT := Lib.hid hT
    clear h hB hq hT
    simp only [Bool.false_eq_true, false_and, false_or, true_and] at c1
    go_enter Tryz.func108, Tryz.ntmps108
    go_wp2_with (first | (go_at_call 102; (with_reducible refine c0.mono ?_); rintro e w1 ⟨rfl, hb1⟩) | (go_at_call 104; (with_reducible refine (c1 _ hb1).mono ?_); rintro e w2 ⟨rfl, hb2⟩) | (go_at_call 159; (with_reducible refine (c2 _ (tr hb1 hb2)).mono ?_); rintro e w3 ⟨⟨b, hd1, rfl, hd3⟩, hb3⟩))
    exact ⟨rfl, .inr ⟨p, HT.out, ⟨b, Nat.le_trans (tr hb1 hb2).size hd1, rfl, hd3⟩, Ow.of_below (tr (tr hb1 hb2) hb3)⟩⟩
  · rw [hB] at c1 hT
    have HT := Lib.hid hT
    clear h hB hq hT c2
    simp only [Bool.true_eq_false, false_and, or_false, true_and] at c1
    go_enter Tryz.func108, Tryz.ntmps108
    go_wp2_with (first | (go_at_call 102; (with_reducible refine c0.mono ?_); rintro e w1 ⟨rfl, hb1⟩) | (go_at_call 104; (with_reducible refine (c1 _ hb1).mono ?_); rintro e w2 ⟨rfl, hs2, hb2⟩; have HS2 := Lib.hid hs2; clear hs2))
    go_ret
    exact .inl ⟨_, _, _, HT.out, rfl, rfl, HS2.out, (Ow.of_below hb1).trans hb2⟩

set_option maxHeartbeats 4000000 in
set_option maxRecDepth 100000 in
theorem named_any (C : Ctx) (p : Nat) (w : World) (h : PSt C w p) :
    Calls Tryz.prog 158 #[.pointer (some ⟨C.pb, 0, none⟩)] w fun e w' => e = .returned (.bool (namedT C.ts p)) ∧ Below w.heap.size w w' := by
  have c := token_any C p w h
  have cr := reserved_any (textT C.ts p)
  clear h
  have hI : namedT C.ts p = (decide (kindT C.ts p = 0) && !resv (textT C.ts p)) := rfl
  obtain ⟨B, hB⟩ : ∃ B, namedT C.ts p = B := ⟨_, rfl⟩
  obtain ⟨k, hk⟩ : ∃ k, kindT C.ts p = k := ⟨_, rfl⟩
  obtain ⟨t, ht⟩ : ∃ t, textT C.ts p = t := ⟨_, rfl⟩
  obtain ⟨q, hq⟩ : ∃ q, placeT C.ts C.s.size p = q := ⟨_, rfl⟩
  rw [hB, hk, ht] at hI
  rw [hk, ht, hq] at c
  rw [ht] at cr
  rw [hB]
  obtain ⟨r, hr⟩ : ∃ r, resv t = r := ⟨_, rfl⟩
  rw [hr] at cr hI
  clear hB hk ht hq hr
  by_cases h3 : k = 0
  · subst h3
    have H : B = !r := by simpa using hI
    subst H
    clear hI
    go_enter Tryz.func158, Tryz.ntmps158
    go_wp2_with (first | (go_at_call 102; (with_reducible refine c.mono ?_); rintro e w1 ⟨rfl, hb1⟩) | (go_at_call 150; (with_reducible refine (cr _).mono ?_); rintro e w2 ⟨rfl, hb2⟩))
    go_ret
    exact ⟨rfl, tr (hb1.alloc hb1.size _) hb2⟩
  · have Q3 : (k == 0) = false := beq_eq_false_iff_ne.2 h3
    have H : B = false := by simpa [h3] using hI
    subst H
    clear hI
    go_enter Tryz.func158, Tryz.ntmps158
    go_wp2_with (first | (go_at_call 102; (with_reducible refine c.mono ?_); rintro e w1 ⟨rfl, hb1⟩))
    go_ret
    exact ⟨rfl, hb1.alloc hb1.size _⟩

set_option maxHeartbeats 4000000 in
set_option maxRecDepth 100000 in
theorem name_any (C : Ctx) (p : Nat) (w : World) (h : PSt C w p) :
    Calls Tryz.prog 105 #[.pointer (some ⟨C.pb, 0, none⟩)] w (Fin C w (nameP C.ts p) fun a _ v => v = .string ⟨a.toArray⟩) := by
  have c0 := named_any C p w h
  have c2 := fun w1 (hb : Below w.heap.size w w1) => give_any C p w1 (h.below hb)
  have hT : nameP C.ts p = if namedT C.ts p then .ok (textT C.ts p) (p + 1) else .bad p := rfl
  cases hB : namedT C.ts p
  · rw [hB] at c0 hT
    have HT := Lib.hid hT
    clear h hB hT
    go_enter Tryz.func105, Tryz.ntmps105
    go_wp2_with (first | (go_at_call 158; (with_reducible refine c0.mono ?_); rintro e w1 ⟨rfl, hb1⟩) | (go_at_call 159; (with_reducible refine (c2 _ hb1).mono ?_); rintro e w3 ⟨⟨b, hd1, rfl, hd3⟩, hb3⟩))
    exact ⟨rfl, .inr ⟨p, HT.out, ⟨b, Nat.le_trans hb1.size hd1, rfl, hd3⟩, Ow.of_below (tr hb1 hb3)⟩⟩
  · rw [hB] at c0 hT
    have hp := namedT_lt hB
    obtain ⟨t, ht⟩ : ∃ t, C.ts[p]? = some t := ⟨C.ts[p], List.getElem?_eq_getElem hp⟩
    have e2 : textT C.ts p = t.2.1 := by unfold textT; rw [ht]
    rw [e2] at hT
    have HT := Lib.hid hT
    have hl := h.len
    have X1 : IntKind.i64.wrap ((p : Int) + 1) = ((p + 1 : Nat) : Int) := by rw [IntWalk.i64_in _ (by omega)]; simp
    have X2 : IntKind.i64.wrap ((p : Int) + 1 - 1) = (p : Int) := by rw [IntWalk.i64_in _ (by omega)]; omega
    have X3 : IntKind.i64.wrap (p : Int) = (p : Int) := IntWalk.i64_in _ (by omega)
    obtain ⟨g, hx, _⟩ := h.row p t ht
    obtain ⟨n, hn⟩ : ∃ n, C.ts.length = n := ⟨_, rfl⟩
    have HN := Lib.hid hn
    have hS : ∀ w1, Below w.heap.size w w1 → w1.cell? ⟨C.pb, 2, none⟩ = some (.int .i64 p) ∧ w1.frozen? ⟨C.pb, 2, none⟩ = false ∧ w1.cell? ⟨C.pb, 1, none⟩ = some (.slice (some ⟨g, 0, none⟩) n C.c) ∧
        (w1.setCell ⟨C.pb, 2, none⟩ (.int .i64 ((p : Int) + 1))).cell? ⟨g, p * 3 + 1, none⟩ = some (.string ⟨t.2.1.toArray⟩) ∧ Hid (PSt C (w1.setCell ⟨C.pb, 2, none⟩ (.int .i64 ((p : Int) + 1))) (p + 1)) := fun w1 hb => by
      have h1 := h.below hb
      have h2 : PSt C (w1.setCell ⟨C.pb, 2, none⟩ (.int .i64 ((p : Int) + 1))) (p + 1) := h1.step hp
      obtain ⟨g', hx', j0, j1, j2⟩ := h2.row p t ht
      rw [hx] at hx'
      cases hx'
      refine ⟨h1.cells.2.2.1, h1.cells.2.2.2, ?_, j1, h2⟩
      rw [← hx, ← hn]
      exact h1.cells.2.1
    rw [hn] at hp hl
    clear h hB hT ht e2 hx hn c2
    go_enter Tryz.func105, Tryz.ntmps105
    go_wp2_with (first | (go_at_call 158; (with_reducible refine c0.mono ?_); rintro e w1 ⟨rfl, hb1⟩; obtain ⟨k1, k2, k3, k4, k5⟩ := hS w1 hb1))
    go_quiet (fail)
    go_wp2
    go_ret
    exact .inl ⟨_, _, _, HT.out, rfl, rfl, (k5.out.below (bdn (Below.refl _ _) _)), ((Ow.of_below hb1).setCell (a := ⟨C.pb, 2, none⟩) (.inl rfl) _).drewN _⟩
end Go.Proofs.YtpbkeamjdolpgaaGreatDoor
namespace Go.Proofs.YtpbkeamjdolpgaaGreatDoor
open Go.RowKit Go.Lib Go.Shelf

theorem Tryz.infoNode : (Tryz.prog.info? 53).map (fun i => (i.zero, i.size, i.bytes)) = some (some (.agg #[.int .i64 0, .string ⟨#[]⟩, .slice none 0 0, .int .i64 0]), 4, 56) := by kernel_rfl
theorem cell_four_new (w : World) (a b c d : Value) (t : TypeId) : ∀ j u, [a, b, c, d][j]? = some u → (w.alloc (.cells #[a, b, c, d] t)).cell? ((⟨w.heap.size, 0, none⟩ : Addr).add j) = some u := by
  intro j u hj
  match j, hj with
  | 0, hj => simp at hj; subst hj; simp [Addr.add]
  | 1, hj => simp at hj; subst hj; simp [Addr.add]
  | 2, hj => simp at hj; subst hj; simp [Addr.add]
  | 3, hj => simp at hj; subst hj; simp [Addr.add]
  | j + 4, hj => simp at hj
/-- A panic with a fault, told outright. -/
def DeadF (C : Ctx) (w w' : World) (q : Nat) (e : Ending) : Prop :=
  ∃ b, w.heap.size ≤ b ∧ e = .panicked [{ v := .iface 23 (.pointer (some ⟨b, 0, none⟩)), recovered := false }] ∧ w'.heap[b]? = some (.cells #[.int .i64 270, .int .i64 (placeT C.ts C.s.size q), .string ⟨(textT C.ts q).toArray⟩] 61 (0, 0)) ∧ Ow C.pb w w'
/-- What a method that tells of a node hands back. -/
def FinN (C : Ctx) (w : World) (R : Res Nd) (e : Ending) (w' : World) : Prop :=
  (∃ k n, ∃ kids : List Nd, ∃ p y, ∃ c : Cp kids.length, ∃ q, R = .ok (.mk k n kids p) q ∧ e = .returned (.agg #[.int .i64 k, .string ⟨n.toArray⟩, .slice y kids.length c, .int .i64 p]) ∧ NdRow w' (fun b => w.heap.size ≤ b) kids y ∧ PSt C w' q ∧ Ow C.pb w w') ∨
  (∃ q, R = .bad q ∧ DeadF C w w' q e)
/-- What a method that tells of a row hands back. -/
def FinR (C : Ctx) (w : World) (R : Res (List Nd)) (e : Ending) (w' : World) : Prop :=
  (∃ l v q, R = .ok l q ∧ e = .returned v ∧ RowOwn w' w.heap.size v l ∧ PSt C w' q ∧ Ow C.pb w w') ∨
  (∃ q, R = .bad q ∧ DeadF C w w' q e)
theorem DeadF.from {C : Ctx} {w w1 w' : World} {q : Nat} {e : Ending} (h : DeadF C w1 w' q e) (ho : Ow C.pb w w1) : DeadF C w w' q e := by
  obtain ⟨b, h1, h2, h3, h4⟩ := h
  exact ⟨b, Nat.le_trans ho.size h1, h2, h3, ho.trans h4⟩
theorem take_fin (C : Ctx) (p : Nat) (s : List UInt8) (w : World) (h : PSt C w p) :
    Calls Tryz.prog 108 #[.pointer (some ⟨C.pb, 0, none⟩), .string ⟨s.toArray⟩] w fun e w' =>
      (∃ q, takeP C.ts C.s.size s p = .ok (placeT C.ts C.s.size p) q ∧ e = .returned (.int .i64 (placeT C.ts C.s.size p)) ∧ PSt C w' q ∧ Ow C.pb w w') ∨ (takeP C.ts C.s.size s p = .bad p ∧ DeadF C w w' p e) := by
  refine (take_any C p s w h).mono ?_
  have hT : takeP C.ts C.s.size s p = if isT C.ts p s then .ok (placeT C.ts C.s.size p) (p + 1) else .bad p := rfl
  rintro e w' (⟨a, q, v, hR, rfl, rfl, hs, ho⟩ | ⟨q, hR, ⟨b, h1, rfl, h3⟩, ho⟩)
  · have : a = placeT C.ts C.s.size p := by
      rw [hT] at hR
      split at hR
      · cases hR; rfl
      · cases hR
    subst this
    exact .inl ⟨q, hR, rfl, hs, ho⟩
  · have : q = p := by
      rw [hT] at hR
      split at hR
      · cases hR
      · cases hR; rfl
    subst this
    exact .inr ⟨hR, b, h1, rfl, h3, ho⟩
theorem name_fin (C : Ctx) (p : Nat) (w : World) (h : PSt C w p) :
    Calls Tryz.prog 105 #[.pointer (some ⟨C.pb, 0, none⟩)] w fun e w' =>
      (∃ q, nameP C.ts p = .ok (textT C.ts p) q ∧ e = .returned (.string ⟨(textT C.ts p).toArray⟩) ∧ PSt C w' q ∧ Ow C.pb w w') ∨ (nameP C.ts p = .bad p ∧ DeadF C w w' p e) := by
  refine (name_any C p w h).mono ?_
  have hT : nameP C.ts p = if namedT C.ts p then .ok (textT C.ts p) (p + 1) else .bad p := rfl
  rintro e w' (⟨a, q, v, hR, rfl, rfl, hs, ho⟩ | ⟨q, hR, ⟨b, h1, rfl, h3⟩, ho⟩)
  · have : a = textT C.ts p := by
      rw [hT] at hR
      split at hR
      · cases hR; rfl
      · cases hR
    subst this
    exact .inl ⟨q, hR, rfl, hs, ho⟩
  · have : q = p := by
      rw [hT] at hR
      split at hR
      · cases hR
      · cases hR; rfl
    subst this
    exact .inr ⟨hR, b, h1, rfl, h3, ho⟩

/-- What a closure that tells of one node promises. -/
def OneC (C : Ctx) (F : Nat) (args : Array Value) (I : World → Prop) (one : Nat → Res Nd) : Prop :=
  ∀ (w : World) (p : Nat), PSt C w p → I w → one p ≠ .out → Calls Tryz.prog F args w (FinN C w (one p))

theorem RowOwn.one {w : World} {B : Nat} (hB : B ≤ w.heap.size) {k : Int} {n : List UInt8} {kids : List Nd} {p : Int} {y : Option Addr} {c : Cp kids.length} (h : NdRow w (fun b => B ≤ b) kids y) :
    RowOwn (w.alloc (.cells #[.int .i64 k, .string ⟨n.toArray⟩, .slice y kids.length c, .int .i64 p] 53)) B (.slice (some ⟨w.heap.size, 0, none⟩) 1 1) [.mk k n kids p] := by
  refine ⟨[.int .i64 k, .string ⟨n.toArray⟩, .slice y kids.length c, .int .i64 p], ⟨rfl, .inr ⟨w.heap.size, 1, _, rfl, hB, heap_alloc_new w _, by simp, by unfold maxLen; omega, rfl, rfl⟩⟩, NFlat.one ⟨y, c, rfl, ?_⟩⟩
  refine NdRow.mono (fun b h1 h2 => ⟨h1, ?_⟩) (fun b _ h2 => Below.heap_alloc w _ b h2) _ _ h
  simp [Value.ownBlock]
  omega
theorem rowM_step {C : Ctx} {one : Nat → Res Nd} {g : Nat} {e : List UInt8} {acc : List Nd} {q : Nat} (hB : isT C.ts q e = false) : rowM C.ts C.s.size one (g + 1) e acc q = (takeP C.ts C.s.size [44] q).bind fun _ r => (one r).bind fun x r' => rowM C.ts C.s.size one g e (acc ++ [x]) r' := by
  rw [rowM, hB]
  rfl
theorem rowM_end {C : Ctx} {one : Nat → Res Nd} {g : Nat} {e : List UInt8} {acc : List Nd} {q : Nat} (hB : isT C.ts q e = true) : rowM C.ts C.s.size one (g + 1) e acc q = .ok acc (q + 1) := by
  rw [rowM, hB]
  rfl

set_option maxHeartbeats 4000000 in
set_option maxRecDepth 100000 in
theorem row_any (C : Ctx) (F : Nat) (first cap : Array Value) (I : World → Prop) (hI : ∀ w w', I w → Ow C.pb w w' → I w') (eg : ∀ args w, (callFunc F args).run Tryz.prog w = .ok (.enter F args) w) (one : Nat → Res Nd) (h1 : OneC C F (first ++ cap) I one)
    (f : Nat) (hf : f ≤ 8192) (e : List UInt8) (p : Nat) (w : World) (h : PSt C w p) (hi : I w) (hne : rowG C.ts C.s.size one f e p ≠ .out) :
    Calls Tryz.prog 160 #[.pointer (some ⟨C.pb, 0, none⟩), .string ⟨e.toArray⟩, .func (.func F) first cap] w (FinR C w (rowG C.ts C.s.size one f e p)) := by
  have hT : rowG C.ts C.s.size one f e p = if isT C.ts p e then .ok [] (p + 1) else (one p).bind fun x q => rowM C.ts C.s.size one f e [x] q := rfl
  have c0 := skip_any C p e w h
  obtain ⟨R, hR⟩ : ∃ R, rowG C.ts C.s.size one f e p = R := ⟨_, rfl⟩
  rw [hR] at hT hne ⊢
  have cS : ∀ w1 q, PSt C w1 q → _ := fun w1 q hs => skip_any C q e w1 hs
  have cT : ∀ w1 q, PSt C w1 q → _ := fun w1 q hs => take_fin C q [44] w1 hs
  have hpb := h.lt
  have HT := Lib.hid hT
  have H0 := Lib.hid h
  obtain ⟨i0, hi0, hz0, hz1, hz2⟩ := info_parts Tryz.infoNode
  have hisT : isT C.ts p e = false → R = (one p).bind fun x q => rowM C.ts C.s.size one f e [x] q := fun hB => by rw [hT, hB]; rfl
  have hisE : isT C.ts p e = true → R = .ok [] (p + 1) := fun hB => by rw [hT, hB]; rfl
  have c1 : ∀ w1, Below w.heap.size w w1 → isT C.ts p e = false → Calls Tryz.prog F (first ++ cap) w1 (FinN C w1 (one p)) := fun w1 hb hB =>
    h1 w1 p (h.below hb) (hI _ _ hi (Ow.of_below hb)) fun ho => by
      have := hisT hB
      rw [ho] at this
      exact hne this
  have c4 : ∀ w1 r, PSt C w1 r → Ow C.pb w w1 → one r ≠ .out → Calls Tryz.prog F (first ++ cap) w1 (FinN C w1 (one r)) := fun w1 r hs ho hn => h1 w1 r hs (hI _ _ hi ho) hn
  have HE := Lib.hid hisE
  have HS := Lib.hid hisT
  have HN := Lib.hid hne
  clear hT hR hisT hisE hne h h1 hi
  go_enter Tryz.func160, Tryz.ntmps160
  go_wp2_with (first | (go_at_call 104; (with_reducible refine c0.mono ?_); rintro e w1 (⟨hB, rfl, hs1, ho1⟩ | ⟨hB, rfl, hb1⟩); clear c0) | (go_at_fn F; (with_reducible refine (c1 _ hb1 hB).mono ?_); rintro e w2 (⟨k, n, kids, pp, y, c, q, hr2, rfl, hk2, hs2, ho2⟩ | ⟨q, hr2, b, hd1, rfl, hd3, hd4⟩)))
  · go_ret
    exact .inl ⟨[], _, p + 1, HE.out hB, rfl, RowOwn.nil _ _, hs1, ho1⟩
  · have ho12 := (Ow.of_below hb1).trans ho2
    have hR := HS.out hB
    rw [hr2] at hR
    have HR := Lib.hid hR
    have hrow0 := RowOwn.one (B := w.heap.size) ho12.size (k := k) (n := n) (p := pp) (c := c) (hk2.wide fun b h1 _ => Nat.le_trans hb1.size h1)
    have HROW := Lib.hid hrow0
    have hs2' := hs2.below ((Below.refl _ _).alloc (Nat.le_refl _) (.cells #[.int .i64 k, .string ⟨n.toArray⟩, .slice y kids.length c, .int .i64 pp] 53))
    have HP := Lib.hid hs2'
    have HO := Lib.hid (ho12.alloc (.cells #[.int .i64 k, .string ⟨n.toArray⟩, .slice y kids.length c, .int .i64 pp] 53))
    clear hB hr2 hk2 hs2 c1 hR hrow0 hs2' hb1 ho2 ho12 HE HS HT
    go_loopg [7] f (fun g v wx => ∃ (acc : List Nd) (q : Nat), RowOwn wx w.heap.size v acc ∧ PSt C wx q ∧ Ow C.pb w wx ∧ Hid (rowM C.ts C.s.size one g e acc q = R) ∧ acc.length + g ≤ f + 1)
    case atStart => exact ⟨[.mk k n kids pp], q, HROW.out, HP.out, HO.out, HR.out.symm, by simp; omega⟩
    case round =>
      clear HROW HP HO HR
      obtain ⟨acc, q, hrow, hs, ho, hS, hlen⟩ := hrel
      obtain ⟨g', rfl⟩ : ∃ g', gk = g' + 1 := by
        cases gk with
        | zero => exact absurd hS.out.symm HN.out
        | succ g' => exact ⟨g', rfl⟩
      have HNE : Hid (∀ r a, isT C.ts q e = false → takeP C.ts C.s.size [44] q = .ok a r → one r ≠ .out) := fun r a hB hr hq => HN.out (by rw [← hS.out, rowM_step hB, hr]; simp [Res.bind, hq])
      obtain ⟨va, vc, rfl, _, _⟩ := hrow.shape
      have HROW := Lib.hid hrow
      have hal : acc.length ≤ 8192 := by omega
      have hwsz := ho.size
      have HLEN := Lib.hid hlen
      clear hrow hlen
      go_wp2_with (first | (go_at_call 104; (with_reducible refine (cS _ _ hs).mono ?_); rintro e w3 (⟨hB, rfl, hs3, ho3⟩ | ⟨hB, rfl, hb3⟩); clear cS) | (go_at_call 108; (with_reducible refine (cT _ _ (hs.below hb3)).mono ?_); rintro e w4 (⟨r, hr4, rfl, hs4, ho4⟩ | ⟨hr4, b, hd1, rfl, hd3, hd4⟩); clear cT) | (go_at_fn F; (with_reducible refine (c4 _ _ hs4 (ho.trans ((Ow.of_below hb3).trans ho4)) (HNE.out _ _ hB hr4)).mono ?_); rintro e w5 (⟨k, n, kids, pp, y, c, q5, hr5, rfl, hk5, hs5, ho5⟩ | ⟨q5, hr5, b, hd1, rfl, hd3, hd4⟩)) | (at_builtin; obtain ⟨xs, hown5, hfl5⟩ := HROW.out.ow ((Ow.of_below hb3).trans (ho4.trans ho5)) hpb; refine wpList_append_fresh _ rfl (.tmp 20) (.tmp 23) 22 rfl (w.heap.size) 53 i0 (.agg #[.int .i64 0, .string ⟨#[]⟩, .slice none 0 0, .int .i64 0]) 4 56 Tryz.underlying22 hi0 hz0 hz1 hz2 rfl (by decide) _ _ _ rfl (hown5.alloc _) ⟨w5.heap.size, 0, none⟩ 1 1 [.int .i64 k, .string ⟨n.toArray⟩, .slice y kids.length c, .int .i64 pp] rfl rfl (cell_four_new _ _ _ _ _ _) (fun x hx => by simp at hx; rcases hx with rfl | rfl | rfl | rfl <;> rfl) (by unfold maxLen; omega) (by omega) (by have := hb3.size; have := ho4.size; have := ho5.size; simp; omega) ?_; intro v' w6 hown' hgrow hfresh))
      · go_ret
        exact .inl ⟨acc, _, q + 1, by rw [← hS.out, rowM_end hB], rfl, HROW.out.ow ho3 hpb, hs3, ho.trans ho3⟩
      · have ho5' := ho.trans ((Ow.of_below hb3).trans (ho4.trans ho5))
        have hlt5 := fun j hj => ((hown5.alloc (.cells #[.int .i64 k, .string ⟨n.toArray⟩, .slice y kids.length c, .int .i64 pp] 53)).lt j hj).1
        have hR := hS.out
        rw [rowM_step hB, hr4] at hR
        simp only [Res.bind] at hR
        rw [hr5] at hR
        have hR' : rowM C.ts C.s.size one g' e (acc ++ [.mk k n kids pp]) q5 = R := hR
        have hlen := HLEN.out
        have hsz := ho5'.size
        go_roundg g'
        case measure => omega
        case rel =>
          refine ⟨acc ++ [.mk k n kids pp], q5, ?_, ?_, (ho5'.alloc _).grown hgrow hlt5, Lib.hid hR', by simp; omega⟩
          · refine RowOwn.snoc (a := [.int .i64 k, .string ⟨n.toArray⟩, .slice y kids.length c, .int .i64 pp]) (NFlat.mono (fun b h1 _ => h1) (fun b _ h2 => Below.heap_alloc _ _ b h2) hfl5) ⟨y, c, rfl, ?_⟩ hown' hgrow hfresh
            refine NdRow.mono (fun b h1 h2 => ⟨by have := ho.size; have := hb3.size; have := ho4.size; omega, fun e => ?_⟩) (fun b _ h2 => Below.heap_alloc _ _ b h2) _ _ hk5
            have hlt3 := (HROW.out.below hb3)
            obtain ⟨xs3, hown3, _⟩ := hlt3
            have := (hown3.lt b e.symm).2
            have := ho4.size
            omega
          · refine H0.out.keep hs5 fun j hj => ?_
            rw [hgrow.block j (by simp; omega) (fun e => by have := hlt5 j e.symm; omega)]
            exact Below.heap_alloc _ _ j (by omega)
      · refine ⟨rfl, .inr ⟨q5, ?_, b, ?_, rfl, hd3, ho.trans ((Ow.of_below hb3).trans (ho4.trans hd4))⟩⟩
        · rw [← hS.out, rowM_step hB, hr4]
          simp only [Res.bind]
          rw [hr5]
        · have := hb3.size
          have := ho4.size
          omega
      · refine ⟨rfl, .inr ⟨q, ?_, b, ?_, rfl, hd3, ho.trans ((Ow.of_below hb3).trans hd4)⟩⟩
        · rw [← hS.out, rowM_step hB, hr4]
          rfl
        · have := hb3.size
          omega
  · exact ⟨rfl, .inr ⟨q, by rw [HS.out hB, hr2]; rfl, b, Nat.le_trans hb1.size hd1, rfl, hd3, (Ow.of_below hb1).trans hd4⟩⟩
end Go.Proofs.YtpbkeamjdolpgaaGreatDoor
namespace Go.Proofs.YtpbkeamjdolpgaaGreatDoor
open Go.RowKit Go.Lib Go.Shelf

/-- Below block n two worlds are the same. -/
def Kp (n : Nat) (w1 w2 : World) : Prop := ∀ k, k < n → w2.heap[k]? = w1.heap[k]?
theorem Kp.refl (n : Nat) (w : World) : Kp n w w := fun _ _ => rfl
theorem Kp.setCell {n : Nat} {w1 w2 : World} (h : Kp n w1 w2) {a : Addr} (ha : n ≤ a.block) (v : Value) : Kp n w1 (w2.setCell a v) := fun k hk => (Below.heap_setCell w2 a v k (by omega)).trans (h k hk)
theorem Kp.alloc {n : Nat} {w1 w2 : World} (h : Kp n w1 w2) (hn : n ≤ w2.heap.size) (o : Obj) : Kp n w1 (w2.alloc o) := fun k hk => (Below.heap_alloc w2 o k (by omega)).trans (h k hk)
theorem Kp.drewN {n : Nat} {w1 w2 : World} (h : Kp n w1 w2) (m : Nat) : Kp n w1 (w2.drewN m) := h
theorem Kp.drew {n : Nat} {w1 w2 : World} (h : Kp n w1 w2) : Kp n w1 w2.drew := h
theorem Kp.grown {n : Nat} {w1 w2 w3 : World} (h : Kp n w1 w2) {row : Option Nat} (hg : w2.grownBy w3 row) (hn : n ≤ w2.heap.size) (hr : ∀ k, row = some k → n ≤ k) : Kp n w1 w3 :=
  fun k hk => (hg.block k (by omega) (fun e => by have := hr k e.symm; omega)).trans (h k hk)

theorem Ow.set {b : Nat} {w w1 : World} (h : Ow b w w1) {k o : Nat} (hk : w.heap.size ≤ k) {v : Value} : Ow b w (w1.setCell ⟨k, o, none⟩ v) := h.setCell (.inr hk) v
theorem Ow.set4 {b : Nat} {w w1 : World} (h : Ow b w w1) {k : Nat} (hk : w.heap.size ≤ k) {v0 v1 v2 v3 : Value} : Ow b w ((((w1.setCell ⟨k, 0, none⟩ v0).setCell ⟨k, 1, none⟩ v1).setCell ⟨k, 2, none⟩ v2).setCell ⟨k, 3, none⟩ v3) := (((h.set hk).set hk).set hk).set hk
theorem Kp.set {n : Nat} {w1 w2 : World} (h : Kp n w1 w2) {k o : Nat} (hk : n ≤ k) {v : Value} : Kp n w1 (w2.setCell ⟨k, o, none⟩ v) := h.setCell (a := ⟨k, o, none⟩) hk v
theorem Kp.set4 {n : Nat} {w1 w2 : World} (h : Kp n w1 w2) {k : Nat} (hk : n ≤ k) {v0 v1 v2 v3 : Value} : Kp n w1 ((((w2.setCell ⟨k, 0, none⟩ v0).setCell ⟨k, 1, none⟩ v1).setCell ⟨k, 2, none⟩ v2).setCell ⟨k, 3, none⟩ v3) := (((h.set hk).set hk).set hk).set hk
theorem NdRow.set {w1 : World} {ok : Nat → Prop} {l : List Nd} {y : Option Addr} (h : NdRow w1 ok l y) {k o : Nat} (hk : ∀ b, ok b → b ≠ k) {v : Value} : NdRow (w1.setCell ⟨k, o, none⟩ v) ok l y :=
  NdRow.mono (fun _ h _ => h) (fun b h1 _ => Below.heap_setCell w1 _ v b (hk b h1)) _ _ h
theorem NdRow.set4 {w1 : World} {ok : Nat → Prop} {l : List Nd} {y : Option Addr} (h : NdRow w1 ok l y) {k : Nat} (hk : ∀ b, ok b → b ≠ k) {v0 v1 v2 v3 : Value} : NdRow ((((w1.setCell ⟨k, 0, none⟩ v0).setCell ⟨k, 1, none⟩ v1).setCell ⟨k, 2, none⟩ v2).setCell ⟨k, 3, none⟩ v3) ok l y :=
  (((h.set hk).set hk).set hk).set hk
theorem NdRow.alloc {w1 : World} {ok : Nat → Prop} {l : List Nd} {y : Option Addr} (h : NdRow w1 ok l y) (o : Obj) : NdRow (w1.alloc o) ok l y := h.below ((Below.refl _ _).alloc (Nat.le_refl _) _)
/-- A node's variable. -/
def Box4 (w : World) (b : Nat) (v0 v1 v2 v3 : Value) : Prop := w.heap[b]? = some (.cells #[v0, v1, v2, v3] 53 (0, 0))
/-- What is known of its cells. -/
def BoxF (w : World) (b : Nat) (v0 v1 v2 v3 : Value) : Prop := w.cell? ⟨b, 0, none⟩ = some v0 ∧ w.cell? ⟨b, 1, none⟩ = some v1 ∧ w.cell? ⟨b, 2, none⟩ = some v2 ∧ w.cell? ⟨b, 3, none⟩ = some v3 ∧ ∀ o, w.frozen? ⟨b, o, none⟩ = false
theorem Box4.facts {w : World} {b : Nat} {v0 v1 v2 v3 : Value} (h : Box4 w b v0 v1 v2 v3) : BoxF w b v0 v1 v2 v3 := by
  unfold Box4 at h
  refine ⟨?_, ?_, ?_, ?_, fun o => ?_⟩ <;> simp [World.cell?, World.frozen?, h]
theorem Box4.new (w : World) (v0 v1 v2 v3 : Value) : Box4 (w.alloc (.cells #[v0, v1, v2, v3] 53)) w.heap.size v0 v1 v2 v3 := heap_alloc_new w _
theorem Box4.lt {w : World} {b : Nat} {v0 v1 v2 v3 : Value} (h : Box4 w b v0 v1 v2 v3) : b < w.heap.size := (Array.getElem?_eq_some_iff.1 h).1
theorem Box4.ow {w w' : World} {b pb : Nat} {v0 v1 v2 v3 : Value} (h : Box4 w b v0 v1 v2 v3) (ho : Ow pb w w') (hn : b ≠ pb) : Box4 w' b v0 v1 v2 v3 := (ho.block b h.lt hn).trans h
theorem Box4.below {w w' : World} {b : Nat} {v0 v1 v2 v3 : Value} (h : Box4 w b v0 v1 v2 v3) (ho : Below w.heap.size w w') : Box4 w' b v0 v1 v2 v3 := (ho.block b h.lt).trans h

/-- What is known of a variable behind a call. -/
def BoxX (w : World) (b : Nat) (v0 v1 v2 v3 : Value) : Prop := BoxF w b v0 v1 v2 v3 ∧ Hid (Box4 w b v0 v1 v2 v3)
theorem Box4.x {w w' : World} {b pb : Nat} {v0 v1 v2 v3 : Value} (h : Box4 w b v0 v1 v2 v3) (ho : Ow pb w w') (hn : b ≠ pb) : BoxX w' b v0 v1 v2 v3 := ⟨(h.ow ho hn).facts, h.ow ho hn⟩
theorem Box4.other {w : World} {b k o : Nat} {v v0 v1 v2 v3 : Value} (h : Box4 w b v0 v1 v2 v3) (hn : b ≠ k) : Box4 (w.setCell ⟨k, o, none⟩ v) b v0 v1 v2 v3 := (Below.heap_setCell w _ v b hn).trans h
theorem Box4.alloc {w : World} {b : Nat} {v0 v1 v2 v3 : Value} (h : Box4 w b v0 v1 v2 v3) (o : Obj) : Box4 (w.alloc o) b v0 v1 v2 v3 := (Below.heap_alloc w o b h.lt).trans h
theorem Box4.set0 {w : World} {b : Nat} {v v0 v1 v2 v3 : Value} (h : Box4 w b v0 v1 v2 v3) : Box4 (w.setCell ⟨b, 0, none⟩ v) b v v1 v2 v3 := by
  unfold Box4 at h ⊢
  simp [World.setCell, Array.getElem?_modify, h]
theorem Box4.set1 {w : World} {b : Nat} {v v0 v1 v2 v3 : Value} (h : Box4 w b v0 v1 v2 v3) : Box4 (w.setCell ⟨b, 1, none⟩ v) b v0 v v2 v3 := by
  unfold Box4 at h ⊢
  simp [World.setCell, Array.getElem?_modify, h]
theorem Box4.set2 {w : World} {b : Nat} {v v0 v1 v2 v3 : Value} (h : Box4 w b v0 v1 v2 v3) : Box4 (w.setCell ⟨b, 2, none⟩ v) b v0 v1 v v3 := by
  unfold Box4 at h ⊢
  simp [World.setCell, Array.getElem?_modify, h]
theorem Box4.set3 {w : World} {b : Nat} {v v0 v1 v2 v3 : Value} (h : Box4 w b v0 v1 v2 v3) : Box4 (w.setCell ⟨b, 3, none⟩ v) b v0 v1 v2 v := by
  unfold Box4 at h ⊢
  simp [World.setCell, Array.getElem?_modify, h]
theorem Box4.set4 {w : World} {b : Nat} {v0 v1 v2 v3 u0 u1 u2 u3 : Value} (h : Box4 w b v0 v1 v2 v3) : Box4 ((((w.setCell ⟨b, 0, none⟩ u0).setCell ⟨b, 1, none⟩ u1).setCell ⟨b, 2, none⟩ u2).setCell ⟨b, 3, none⟩ u3) b u0 u1 u2 u3 := h.set0.set1.set2.set3
theorem Box4.other4 {w : World} {b k : Nat} {v0 v1 v2 v3 u0 u1 u2 u3 : Value} (h : Box4 w b v0 v1 v2 v3) (hn : b ≠ k) : Box4 ((((w.setCell ⟨k, 0, none⟩ u0).setCell ⟨k, 1, none⟩ u1).setCell ⟨k, 2, none⟩ u2).setCell ⟨k, 3, none⟩ u3) b v0 v1 v2 v3 := (((h.other hn).other hn).other hn).other hn
/-- Nodes that are laid in a new block. -/
theorem NdRow.buildK {w : World} {ok : Nat → Prop} (hB : ok w.heap.size) {l : List Nd} {xs : List Value} (h : NFlat w ok l xs) : NdRow (w.alloc (.cells xs.toArray 53)) ok l (some ⟨w.heap.size, 0, none⟩) := by
  refine NFlat.row (ok := ok) hB (fun q => by simp only [World.frozen?, heap_alloc_new w (.cells xs.toArray 53)]; simp) 0 rfl (NFlat.mono (fun _ h _ => h) (fun b _ h2 => Below.heap_alloc _ _ b h2) h) fun j u hj => ?_
  have hc := heap_alloc_new w (.cells xs.toArray 53)
  simp only [World.cell?, hc]
  simpa using hj
theorem NdRow.build {w : World} {B : Nat} (hB : B ≤ w.heap.size) {l : List Nd} {xs : List Value} (h : NFlat w (fun b => B ≤ b) l xs) : NdRow (w.alloc (.cells xs.toArray 53)) (fun b => B ≤ b) l (some ⟨w.heap.size, 0, none⟩) := NdRow.buildK (ok := fun b => B ≤ b) hB h
theorem NFlat.two {w : World} {ok : Nat → Prop} {x y : Nd} {a b : List Value} (ha : NdCells w ok x a) (hb : NdCells w ok y b) : NFlat w ok [x, y] (a ++ b) := NFlat.app hb (NFlat.one ha)
theorem NFlat.three {w : World} {ok : Nat → Prop} {x y z : Nd} {a b c : List Value} (ha : NdCells w ok x a) (hb : NdCells w ok y b) (hc : NdCells w ok z c) : NFlat w ok [x, y, z] (a ++ b ++ c) := NFlat.app hc (NFlat.two ha hb)
theorem NdRow.cells {w : World} {ok : Nat → Prop} {k : Int} {n : List UInt8} {kids : List Nd} {p : Int} {y : Option Addr} {c : Cp kids.length} (h : NdRow w ok kids y) : NdCells w ok (.mk k n kids p) [.int .i64 k, .string ⟨n.toArray⟩, .slice y kids.length c, .int .i64 p] := ⟨y, c, rfl, h⟩

/-- The small methods' contracts, with what else is known behind them. -/
theorem token_x (C : Ctx) (p : Nat) (w : World) (h : PSt C w p) (X : World → Prop) (hX : ∀ w', Ow C.pb w w' → X w') :
    Calls Tryz.prog 102 #[.pointer (some ⟨C.pb, 0, none⟩)] w fun e w' => e = .returned (.agg #[.int .i64 (kindT C.ts p), .string ⟨(textT C.ts p).toArray⟩, .int .i64 (placeT C.ts C.s.size p)]) ∧ PSt C w' p ∧ Ow C.pb w w' ∧ X w' :=
  (token_any C p w h).mono fun _ _ ⟨a, b⟩ => ⟨a, h.below b, Ow.of_below b, hX _ (Ow.of_below b)⟩
theorem is_x (C : Ctx) (p : Nat) (s : List UInt8) (w : World) (h : PSt C w p) (X : World → Prop) (hX : ∀ w', Ow C.pb w w' → X w') :
    Calls Tryz.prog 111 #[.pointer (some ⟨C.pb, 0, none⟩), .string ⟨s.toArray⟩] w fun e w' => (isT C.ts p s = true ∧ e = .returned (.bool true) ∧ PSt C w' p ∧ Ow C.pb w w' ∧ X w') ∨ (isT C.ts p s = false ∧ e = .returned (.bool false) ∧ PSt C w' p ∧ Ow C.pb w w' ∧ X w') :=
  (is_any C p s w h).mono fun _ _ ⟨a, b⟩ => by
    cases hB : isT C.ts p s
    · rw [hB] at a
      exact .inr ⟨rfl, a, h.below b, Ow.of_below b, hX _ (Ow.of_below b)⟩
    · rw [hB] at a
      exact .inl ⟨rfl, a, h.below b, Ow.of_below b, hX _ (Ow.of_below b)⟩
theorem skip_x (C : Ctx) (p : Nat) (s : List UInt8) (w : World) (h : PSt C w p) (X : World → Prop) (hX : ∀ w', Ow C.pb w w' → X w') :
    Calls Tryz.prog 104 #[.pointer (some ⟨C.pb, 0, none⟩), .string ⟨s.toArray⟩] w fun e w' => (isT C.ts p s = true ∧ e = .returned (.bool true) ∧ PSt C w' (p + 1) ∧ Ow C.pb w w' ∧ X w') ∨ (isT C.ts p s = false ∧ e = .returned (.bool false) ∧ PSt C w' p ∧ Ow C.pb w w' ∧ X w') :=
  (skip_any C p s w h).mono fun _ _ h1 => h1.imp (fun ⟨a, b, c, d⟩ => ⟨a, b, c, d, hX _ d⟩) (fun ⟨a, b, c⟩ => ⟨a, b, h.below c, Ow.of_below c, hX _ (Ow.of_below c)⟩)
theorem take_x (C : Ctx) (p : Nat) (s : List UInt8) (w : World) (h : PSt C w p) (X : World → Prop) (hX : ∀ w', Ow C.pb w w' → X w') :
    Calls Tryz.prog 108 #[.pointer (some ⟨C.pb, 0, none⟩), .string ⟨s.toArray⟩] w fun e w' =>
      (∃ q, takeP C.ts C.s.size s p = .ok (placeT C.ts C.s.size p) q ∧ e = .returned (.int .i64 (placeT C.ts C.s.size p)) ∧ PSt C w' q ∧ Ow C.pb w w' ∧ X w') ∨ (takeP C.ts C.s.size s p = .bad p ∧ DeadF C w w' p e) :=
  (take_fin C p s w h).mono fun _ _ h1 => h1.imp (fun ⟨q, a, b, c, d⟩ => ⟨q, a, b, c, d, hX _ d⟩) id
theorem name_x (C : Ctx) (p : Nat) (w : World) (h : PSt C w p) (X : World → Prop) (hX : ∀ w', Ow C.pb w w' → X w') :
    Calls Tryz.prog 105 #[.pointer (some ⟨C.pb, 0, none⟩)] w fun e w' =>
      (∃ q, nameP C.ts p = .ok (textT C.ts p) q ∧ e = .returned (.string ⟨(textT C.ts p).toArray⟩) ∧ PSt C w' q ∧ Ow C.pb w w' ∧ X w') ∨ (nameP C.ts p = .bad p ∧ DeadF C w w' p e) :=
  (name_fin C p w h).mono fun _ _ h1 => h1.imp (fun ⟨q, a, b, c, d⟩ => ⟨q, a, b, c, d, hX _ d⟩) id
theorem node_x {C : Ctx} {F : Nat} {args : Array Value} {w : World} {R : Res Nd} (h : Calls Tryz.prog F args w (FinN C w R)) (X : World → Prop) (hX : ∀ w', Ow C.pb w w' → X w') :
    Calls Tryz.prog F args w fun e w' =>
      (∃ k n, ∃ kids : List Nd, ∃ p y, ∃ c : Cp kids.length, ∃ q, R = .ok (.mk k n kids p) q ∧ e = .returned (.agg #[.int .i64 k, .string ⟨n.toArray⟩, .slice y kids.length c, .int .i64 p]) ∧ NdRow w' (fun b => w.heap.size ≤ b) kids y ∧ PSt C w' q ∧ Ow C.pb w w' ∧ X w') ∨ (∃ q, R = .bad q ∧ DeadF C w w' q e) :=
  h.mono fun _ _ h1 => h1.imp (fun ⟨k, n, kids, p, y, c, q, a, b, d, e, f⟩ => ⟨k, n, kids, p, y, c, q, a, b, d, e, f, hX _ f⟩) id
theorem node_ok {C : Ctx} {F : Nat} {args : Array Value} {w : World} {R : Res Nd} (h : Calls Tryz.prog F args w (FinN C w R)) {k : Int} {n : List UInt8} {kids : List Nd} {p : Int} {q : Nat} (hR : R = .ok (.mk k n kids p) q) (X : World → Prop) (hX : ∀ w', Ow C.pb w w' → X w') :
    Calls Tryz.prog F args w fun e w' => ∃ y, ∃ c : Cp kids.length, e = .returned (.agg #[.int .i64 k, .string ⟨n.toArray⟩, .slice y kids.length c, .int .i64 p]) ∧ NdRow w' (fun b => w.heap.size ≤ b) kids y ∧ PSt C w' q ∧ Ow C.pb w w' ∧ X w' :=
  h.mono fun _ _ h1 => by
    rcases h1 with ⟨k', n', kids', p', y, c, q', a, b, d, e, f⟩ | ⟨q', a, _⟩
    · rw [hR] at a
      cases a
      exact ⟨y, c, b, d, e, f, hX _ f⟩
    · rw [hR] at a
      cases a
theorem node_bad {C : Ctx} {F : Nat} {args : Array Value} {w : World} {R : Res Nd} (h : Calls Tryz.prog F args w (FinN C w R)) {q : Nat} (hR : R = .bad q) :
    Calls Tryz.prog F args w fun e w' => DeadF C w w' q e :=
  h.mono fun _ _ h1 => by
    rcases h1 with ⟨k', n', kids', p', y, c, q', a, b, d, e, f⟩ | ⟨q', a, d⟩
    · rw [hR] at a
      cases a
    · rw [hR] at a
      cases a
      exact d
theorem row_x {C : Ctx} {F : Nat} {args : Array Value} {w : World} {R : Res (List Nd)} (h : Calls Tryz.prog F args w (FinR C w R)) (X : World → Prop) (hX : ∀ w', Ow C.pb w w' → X w') :
    Calls Tryz.prog F args w fun e w' =>
      (∃ l : List Nd, ∃ y, ∃ c : Cp l.length, ∃ q, R = .ok l q ∧ e = .returned (.slice y l.length c) ∧ NdRow w' (fun b => w.heap.size ≤ b) l y ∧ PSt C w' q ∧ Ow C.pb w w' ∧ X w') ∨ (∃ q, R = .bad q ∧ DeadF C w w' q e) :=
  h.mono fun _ _ h1 => h1.imp (fun ⟨l, v, q, a, b, d, e, f⟩ => by
    obtain ⟨y, c, rfl, hc, h3⟩ := d.shape
    exact ⟨l, y, ⟨c, hc⟩, q, a, b, h3, e, f, hX _ f⟩) id

def zNode : Obj := .cells #[.int .i64 0, .string ⟨#[]⟩, .slice none 0 0, .int .i64 0] 53

set_option maxHeartbeats 4000000 in
set_option maxRecDepth 100000 in
theorem paramN_any (C : Ctx) (bx : Nat) : OneC C 161 #[.pointer (some ⟨bx, 0, none⟩)] (fun w => w.cell? ⟨bx, 0, none⟩ = some (.pointer (some ⟨C.pb, 0, none⟩)) ∧ bx ≠ C.pb) (nameN C.ts C.s.size) := by
  intro w p h hi _
  obtain ⟨hbx, hne⟩ := hi
  have hA : Below w.heap.size w (w.alloc zNode) := (Below.refl _ _).alloc (Nat.le_refl _) _
  have hlt := World.block_lt_of_cell? w _ hbx
  have hpb := h.lt
  have c0 := token_any C p (w.alloc zNode) (h.below hA)
  have c1 : ∀ w2, Below (w.alloc zNode).heap.size (w.alloc zNode) w2 → Calls Tryz.prog 105 #[.pointer (some ⟨C.pb, 0, none⟩)] w2 fun e w' =>
      (∃ q, nameP C.ts p = .ok (textT C.ts p) q ∧ e = .returned (.string ⟨(textT C.ts p).toArray⟩) ∧ PSt C w' q ∧ Ow C.pb w2 w' ∧ BoxF w' w.heap.size (.int .i64 0) (.string ⟨#[]⟩) (.slice none 0 0) (.int .i64 0)) ∨ (nameP C.ts p = .bad p ∧ DeadF C w2 w' p e) := fun w2 hb =>
    (name_fin C p w2 ((h.below hA).below hb)).mono fun e w3 h1 => h1.imp (fun ⟨q, a, b, c, d⟩ => ⟨q, a, b, c, d, (((Box4.new w _ _ _ _).below hb).ow d (by omega)).facts⟩) id
  have k0 : ∀ o, (w.alloc o).cell? ⟨bx, 0, none⟩ = some (.pointer (some ⟨C.pb, 0, none⟩)) := fun o => al_cell hbx o
  have k1 : ∀ w2, Below (w.alloc zNode).heap.size (w.alloc zNode) w2 → w2.cell? ⟨bx, 0, none⟩ = some (.pointer (some ⟨C.pb, 0, none⟩)) := fun w2 hb => (hb.cell (p := ⟨bx, 0, none⟩) (by have := World.size_alloc w zNode; omega)).trans (al_cell hbx _)
  have H0 := Lib.hid h
  have HA := Lib.hid hA
  have F2 := fld2
  obtain ⟨pl, hpl⟩ : ∃ pl, placeT C.ts C.s.size p = pl := ⟨_, rfl⟩
  rw [hpl] at c0
  have HPL := Lib.hid hpl
  clear h hbx hpl hA
  simp only [zNode] at c0 c1 k1
  go_enter Tryz.func161, Tryz.ntmps161
  go_wp2_with (first | (go_at_call 102; (with_reducible refine c0.mono ?_); rintro e w2 ⟨rfl, hb2⟩; have k3 := k1 _ hb2) | (go_at_call 105; (with_reducible refine (c1 _ hb2).mono ?_); rintro e w3 (⟨q, hr, rfl, hs, ho, e0, e1, e2, e3, ef⟩ | ⟨hr, b, hd1, rfl, hd3, hd4⟩)))
  · have ho3 := ((Ow.of_below HA.out).below hb2).trans ho
    refine ret_node rfl rfl rfl (by simp [go_sem, e0]) (by simp [go_sem, e1]) (by simp [go_sem, e2]) (by simp [go_sem, e3]) (.inl ⟨10, textT C.ts p, [], pl, none, ⟨0, Nat.le_refl _⟩, q, ?_, rfl, trivial, H0.out.keep hs ((Kp.refl _ _).set4 (Nat.le_refl _)), ho3.set4 (Nat.le_refl _)⟩)
    unfold nameN
    rw [hr, HPL.out]
    rfl
  · have hsz := ((Ow.of_below (b := C.pb) HA.out).below hb2)
    refine ⟨rfl, .inr ⟨p, ?_, b, Nat.le_trans hsz.size hd1, rfl, hd3, hsz.trans hd4⟩⟩
    unfold nameN
    rw [hr]
    rfl

set_option maxHeartbeats 4000000 in
set_option maxRecDepth 100000 in
theorem params_any (C : Ctx) (f : Nat) (hf : f ≤ 8192) (p : Nat) (w : World) (h : PSt C w p) (hne : paramsP C.ts C.s.size f p ≠ .out) :
    Calls Tryz.prog 106 #[.pointer (some ⟨C.pb, 0, none⟩)] w (FinN C w (paramsP C.ts C.s.size f p)) := by
  have hmf : ∀ (fn : Fn) (first cap : Array Value) (w : World), (Instr.makeFunc fn first cap).run Tryz.prog w = .ok (.func fn first cap) w := fun _ _ _ _ => rfl
  have hpb := h.lt
  have eg := enters_of Tryz.func161 (by kernel_rfl) rfl
  have hA : Ow C.pb w ((w.alloc (.cells #[.pointer (some ⟨C.pb, 0, none⟩)] 94)).alloc zNode) := ((Ow.refl _ _).alloc _).alloc _
  have hsA : PSt C ((w.alloc (.cells #[.pointer (some ⟨C.pb, 0, none⟩)] 94)).alloc zNode) p := h.below (((Below.refl _ _).alloc (Nat.le_refl _) _).alloc (by simp) _)
  have kb : ∀ w1, Ow C.pb ((w.alloc (.cells #[.pointer (some ⟨C.pb, 0, none⟩)] 94)).alloc zNode) w1 → w1.cell? ⟨w.heap.size, 0, none⟩ = some (.pointer (some ⟨C.pb, 0, none⟩)) ∧ BoxF w1 (w.heap.size + 1) (.int .i64 0) (.string ⟨#[]⟩) (.slice none 0 0) (.int .i64 0) := fun w1 ho =>
    ⟨ho.cell (p := ⟨w.heap.size, 0, none⟩) (by simp; omega) (by simp [zNode]), ((show Box4 ((w.alloc (.cells #[.pointer (some ⟨C.pb, 0, none⟩)] 94)).alloc zNode) (w.heap.size + 1) _ _ _ _ from heap_alloc2_new w _ _).ow ho (by omega)).facts⟩
  have c0 := take_x C p [40] _ hsA _ kb
  have c1 : ∀ w1 q, PSt C w1 q → Ow C.pb ((w.alloc (.cells #[.pointer (some ⟨C.pb, 0, none⟩)] 94)).alloc zNode) w1 → takeP C.ts C.s.size [40] p = .ok (placeT C.ts C.s.size p) q → _ := fun w1 q hs ho hr =>
    row_x (row_any C 161 #[] #[.pointer (some ⟨w.heap.size, 0, none⟩)] (fun w1 => w1.cell? ⟨w.heap.size, 0, none⟩ = some (.pointer (some ⟨C.pb, 0, none⟩)) ∧ w.heap.size ≠ C.pb) (fun a b h1 h2 => ⟨h2.cell (p := ⟨w.heap.size, 0, none⟩) h1.2 h1.1, h1.2⟩) eg (nameN C.ts C.s.size) (by simpa using paramN_any C w.heap.size)
      f hf [41] q w1 hs ⟨(kb w1 ho).1, by omega⟩ (fun e => hne (by unfold paramsP; rw [hr]; simp only [Res.bind]; rw [e]))) _ (fun w2 h2 => kb w2 (ho.trans h2))
  have HA := Lib.hid hA
  have H0 := Lib.hid h
  obtain ⟨R, hR⟩ : ∃ R, paramsP C.ts C.s.size f p = R := ⟨_, rfl⟩
  have HR := Lib.hid hR
  rw [hR]
  clear hR hne kb hA hsA h eg
  simp only [zNode] at c0 c1
  obtain ⟨pl, hpl⟩ : ∃ pl, placeT C.ts C.s.size p = pl := ⟨_, rfl⟩
  rw [hpl] at c0 c1
  clear hpl
  go_enter Tryz.func106, Tryz.ntmps106
  go_wp2_with (first | (go_at_call 108; (with_reducible refine c0.mono ?_); rintro e w1 (⟨q, hr, rfl, hs, ho, k0, e0, e1, e2, e3, ef⟩ | ⟨hr, b, hd1, rfl, hd3, hd4⟩); clear c0) | (go_at_call 160; (with_reducible refine (c1 _ _ hs ho hr).mono ?_); rintro e w2 (⟨l, y, c, q2, hr2, rfl, hk2, hs2, ho2, j0, f0, f1, f2, f3, ff⟩ | ⟨q2, hr2, b, hd1, rfl, hd3, hd4⟩)))
  · have hwA := HA.out.size
    have hwA2 : (w.alloc (.cells #[.pointer (some ⟨C.pb, 0, none⟩)] 94)).heap.size + 1 ≤ w1.heap.size := by have := ho.size; simpa using this
    rw [World.size_alloc] at hwA2
    refine ret_node rfl rfl rfl (by simp [go_sem, f0]) (by simp [go_sem, f1]) (by simp [go_sem, f2]) (by simp [go_sem, f3]) (.inl ⟨4, [], l, pl, y, c, q2, ?_, rfl, (hk2.set4 (fun b hb => by omega)).wide (fun b hb _ => by omega), H0.out.keep hs2 ((Kp.refl _ _).set4 (by omega)), ((HA.out.trans ho).trans ho2).set4 (by omega)⟩)
    rw [← HR.out]
    unfold paramsP
    rw [hr]
    simp only [Res.bind]
    rw [hr2]
  · refine ⟨rfl, .inr ⟨q2, ?_, b, Nat.le_trans (HA.out.trans ho).size hd1, rfl, hd3, (HA.out.trans ho).trans hd4⟩⟩
    rw [← HR.out]
    unfold paramsP
    rw [hr]
    simp only [Res.bind]
    rw [hr2]
  · refine ⟨rfl, .inr ⟨p, ?_, b, Nat.le_trans HA.out.size hd1, rfl, hd3, HA.out.trans hd4⟩⟩
    rw [← HR.out]
    unfold paramsP
    rw [hr]
    rfl

/-- A method's promise. -/
abbrev OneT (C : Ctx) (F : Nat) (R : Nat → Res Nd) : Prop := OneC C F #[.pointer (some ⟨C.pb, 0, none⟩)] (fun _ => True) R

set_option maxHeartbeats 4000000 in
set_option maxRecDepth 100000 in
theorem args_any (C : Ctx) (ex : Nat → Res Nd) (hx : OneT C 109 ex) (f : Nat) (hf : f ≤ 8192) : OneT C 110 (argsO C.ts C.s.size ex f) := by
  intro w p h _ hne
  have hmf : ∀ (fn : Fn) (first cap : Array Value) (w : World), (Instr.makeFunc fn first cap).run Tryz.prog w = .ok (.func fn first cap) w := fun _ _ _ _ => rfl
  have hpb := h.lt
  have eg := enters_of Tryz.func109 (by kernel_rfl) rfl
  have hA : Ow C.pb w (w.alloc zNode) := (Ow.refl _ _).alloc _
  have hsA : PSt C (w.alloc zNode) p := h.below ((Below.refl _ _).alloc (Nat.le_refl _) _)
  have kb : ∀ w1, Ow C.pb (w.alloc zNode) w1 → BoxF w1 w.heap.size (.int .i64 0) (.string ⟨#[]⟩) (.slice none 0 0) (.int .i64 0) := fun w1 ho =>
    ((Box4.new w _ _ _ _).ow ho (by omega)).facts
  have c0 := take_x C p [40] _ hsA _ kb
  have c1 : ∀ w1 q, PSt C w1 q → Ow C.pb (w.alloc zNode) w1 → takeP C.ts C.s.size [40] p = .ok (placeT C.ts C.s.size p) q → _ := fun w1 q hs ho hr =>
    row_x (row_any C 109 #[.pointer (some ⟨C.pb, 0, none⟩)] #[] (fun _ => True) (fun a b h1 h2 => trivial) eg ex (by simpa using hx)
      f hf [41] q w1 hs trivial (fun e => hne (by unfold argsO; rw [hr]; simp only [Res.bind]; rw [e]))) _ (fun w2 h2 => kb w2 (ho.trans h2))
  have HA := Lib.hid hA
  have H0 := Lib.hid h
  obtain ⟨R, hR⟩ : ∃ R, argsO C.ts C.s.size ex f p = R := ⟨_, rfl⟩
  have HR := Lib.hid hR
  rw [hR]
  clear hR hne kb hA hsA h eg hx
  simp only [zNode] at c0 c1
  obtain ⟨pl, hpl⟩ : ∃ pl, placeT C.ts C.s.size p = pl := ⟨_, rfl⟩
  rw [hpl] at c0 c1
  clear hpl
  go_enter Tryz.func110, Tryz.ntmps110
  go_wp2_with (first | (go_at_call 108; (with_reducible refine c0.mono ?_); rintro e w1 (⟨q, hr, rfl, hs, ho, e0, e1, e2, e3, ef⟩ | ⟨hr, b, hd1, rfl, hd3, hd4⟩); clear c0) | (go_at_call 160; (with_reducible refine (c1 _ _ hs ho hr).mono ?_); rintro e w2 (⟨l, y, c, q2, hr2, rfl, hk2, hs2, ho2, f0, f1, f2, f3, ff⟩ | ⟨q2, hr2, b, hd1, rfl, hd3, hd4⟩)))
  · have hwA2 := ho.size
    rw [World.size_alloc] at hwA2
    refine ret_node rfl rfl rfl (by simp [go_sem, f0]) (by simp [go_sem, f1]) (by simp [go_sem, f2]) (by simp [go_sem, f3]) (.inl ⟨8, [], l, pl, y, c, q2, ?_, rfl, (hk2.set4 (fun b hb => by omega)).wide (fun b hb _ => by omega), H0.out.keep hs2 ((Kp.refl _ _).set4 (by omega)), ((HA.out.trans ho).trans ho2).set4 (by omega)⟩)
    rw [← HR.out]
    unfold argsO
    rw [hr]
    simp only [Res.bind]
    rw [hr2]
  · refine ⟨rfl, .inr ⟨q2, ?_, b, Nat.le_trans (HA.out.trans ho).size hd1, rfl, hd3, (HA.out.trans ho).trans hd4⟩⟩
    rw [← HR.out]
    unfold argsO
    rw [hr]
    simp only [Res.bind]
    rw [hr2]
  · refine ⟨rfl, .inr ⟨p, ?_, b, Nat.le_trans HA.out.size hd1, rfl, hd3, HA.out.trans hd4⟩⟩
    rw [← HR.out]
    unfold argsO
    rw [hr]
    rfl
end Go.Proofs.YtpbkeamjdolpgaaGreatDoor
namespace Go.Proofs.YtpbkeamjdolpgaaGreatDoor
open Go.RowKit Go.Lib Go.Shelf

mutual
/-- No row of parts is as long as a number can't tell. -/
def LenN : Nd → Prop
  | .mk _ _ kids _ => kids.length < 2 ^ 62 ∧ LenL kids
def LenL : List Nd → Prop
  | [] => True
  | x :: r => LenN x ∧ LenL r
end
theorem LenL.at_ : ∀ {l : List Nd} {i : Nat} {x : Nd}, LenL l → l[i]? = some x → LenN x
  | [], i, x, _, hi => by simp at hi
  | u :: r, 0, x, h, hi => by
    simp at hi
    subst hi
    exact h.1
  | u :: r, i + 1, x, h, hi => LenL.at_ (l := r) (i := i) h.2 (by simpa using hi)
theorem LenL.of : ∀ {l : List Nd}, (∀ x ∈ l, LenN x) → LenL l
  | [], _ => trivial
  | u :: r, h => ⟨h u (by simp), LenL.of fun x hx => h x (by simp [hx])⟩
theorem deepL_drop {l : List Nd} {i : Nat} {x : Nd} (h : l[i]? = some x) (d : Nat) : deepL (l.drop i) d = if 64 < d then some x else match deepN x d with
    | some y => some y
    | none => deepL (l.drop (i + 1)) d := by
  obtain ⟨hi, rfl⟩ := List.getElem?_eq_some_iff.1 h
  rw [List.drop_eq_getElem_cons hi]
  rfl
/-- What tree.deep hands back. -/
def DeepEnd (w w' : World) (ok : Nat → Prop) (r : Option Nd) (e : Ending) : Prop :=
  Below w.heap.size w w' ∧ ((r = none ∧ e = .returned (.pointer none)) ∨ ∃ nd b o, r = some nd ∧ e = .returned (.pointer (some ⟨b, o, none⟩)) ∧ NdAt w' ok nd b o)

set_option maxHeartbeats 4000000 in
set_option maxRecDepth 100000 in
theorem deep_any (ok : Nat → Prop) : ∀ (N : Nat) (l : List Nd), szL l < N → LenL l → l.length < 2 ^ 62 → ∀ (d : Nat), d ≤ 65 → ∀ (y : Option Addr) (c : Nat) (w : World), NdRow w ok l y →
    Calls Tryz.prog 50 #[.slice y l.length c, .int .i64 d] w fun e w' => DeepEnd w w' ok (deepL l d) e
  | 0, l, hN, _, _, _, _, _, _, _, _ => by omega
  | N + 1, l, hN, hlen, hll, d, hd, y, c, w, hrow => by
    have ih := deep_any ok N
    obtain ⟨R, hR⟩ : ∃ R, deepL l d = R := ⟨_, rfl⟩
    rw [hR]
    obtain ⟨n, hn⟩ : ∃ n, l.length = n := ⟨_, rfl⟩
    have HN := Lib.hid hn
    have HR := Lib.hid hR
    have HROW := Lib.hid hrow
    have HLEN := Lib.hid hlen
    have HSZ := Lib.hid hN
    have HIH := Lib.hid ih
    rw [hn] at hll ⊢
    have Qd1 : IntKind.i64.wrap ((d : Int) + 1) = (d : Int) + 1 := IntWalk.i64_in _ (by omega)
    clear hN hlen hrow hR hn ih
    go_enter Tryz.func50, Tryz.ntmps50
    go_wp2_with fail
    go_loopg [9] n (fun g v wx => ∃ i : Nat, v = .int .i64 i ∧ i + g = n ∧ Below w.heap.size w wx ∧ Hid (deepL (l.drop i) d = R))
    case atStart => exact ⟨0, rfl, by omega, Below.refl _ _, HR⟩
    case round =>
      obtain ⟨i, rfl, hi, hb, hS⟩ := hrel
      by_cases hlt : i < n
      · obtain ⟨x, hx⟩ : ∃ x, l[i]? = some x := ⟨l[i]'(by have := HN.out; omega), List.getElem?_eq_getElem _⟩
        have hS2 := hS.out
        rw [deepL_drop hx] at hS2
        obtain ⟨B, o, rfl, hat⟩ := (HROW.out.below hb).at_ hx
        have hxl := HLEN.out.at_ hx
        obtain ⟨k, nm, kids, p⟩ := x
        obtain ⟨hok, x0, x1, x3, y', c', x2, hk⟩ := hat
        have c1 := HIH.out kids (by have := kids_lt hx; have := HSZ.out; omega) hxl.2 hxl.1 (d + 1)
        have HAT : Hid (NdAt wr ok (.mk k nm kids p) B (o + i * 4)) := ⟨hok, x0, x1, x3, y', c', x2, hk⟩
        have HKK := Lib.hid hk
        have hlt' : (i : Int) < (n : Int) := by omega
        by_cases hd64 : 64 < d
        · have hd' : (64 : Int) < (d : Int) := by omega
          have hS3 : R = some (.mk k nm kids p) := by rw [← hS2, if_pos hd64]
          have HS := Lib.hid hS3
          clear hS hS2 hS3 hx hxl hk c1 hok
          go_wp2_with fail
          go_ret
          exact ⟨hb, .inr ⟨_, B, _, HS.out, rfl, HAT.out⟩⟩
        · have hd' : ¬ (64 : Int) < (d : Int) := by omega
          have c2 : Calls Tryz.prog 50 #[.slice y' kids.length c', .int .i64 ((d : Int) + 1)] wr fun e w' => DeepEnd wr w' ok (deepL kids (d + 1)) e := c1 (by omega) y' c' wr hk
          have hS3 : R = match deepN (.mk k nm kids p) d with
            | some y => some y
            | none => deepL (l.drop (i + 1)) d := by rw [← hS2, if_neg hd64]
          have HS := Lib.hid hS3
          clear hS hS2 hS3 hx hxl hk c1 hok
          go_wp2_with fail
          refine c2.mono ?_
          clear c2
          have Qi1 : IntKind.i64.wrap ((i : Int) + 1) = (i : Int) + 1 := IntWalk.i64_in _ (by omega)
          rintro e w2 ⟨hb2, ⟨hr, rfl⟩ | ⟨nd, b2, o2, hr, rfl, hat2⟩⟩
          · have hS4 := HS.out
            rw [show deepN (.mk k nm kids p) d = deepL kids (d + 1) from rfl, hr] at hS4
            have HS4 := Lib.hid hS4
            have hb3 := tr hb hb2
            clear hr hS4 hb hb2
            go_wp2_with fail
            go_roundg (gk - 1)
            case measure => omega
            case rel => exact ⟨i + 1, rfl, by omega, hb3, HS4.out.symm⟩
          · have hS4 := HS.out
            rw [show deepN (.mk k nm kids p) d = deepL kids (d + 1) from rfl, hr] at hS4
            have HS4 := Lib.hid hS4
            have HA2 := Lib.hid hat2
            have hb3 := tr hb hb2
            clear hr hS4 hb hb2 hat2
            go_wp2_with fail
            go_ret
            exact ⟨hb3, .inr ⟨nd, b2, o2, HS4.out, rfl, HA2.out⟩⟩
      · have hS2 := hS.out
        rw [List.drop_of_length_le (by have := HN.out; omega)] at hS2
        have HS := Lib.hid hS2
        have hlt' : ¬ (i : Int) < (n : Int) := by omega
        clear hS hS2
        go_wp2_with fail
        go_ret
        exact ⟨hb, .inl ⟨HS.out.symm, rfl⟩⟩
end Go.Proofs.YtpbkeamjdolpgaaGreatDoor
