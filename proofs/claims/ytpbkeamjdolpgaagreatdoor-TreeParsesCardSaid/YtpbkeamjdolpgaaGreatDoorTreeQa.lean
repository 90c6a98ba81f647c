/- The reference's parser: its state; what it asks. -/
import Derived.Test.YtpbkeamjdolpgaaGreatDoorB17
import Derived.Test.YtpbkeamjdolpgaaGreatDoorC01
namespace Go.Proofs.YtpbkeamjdolpgaaGreatDoor
open Go.RowKit Go.Lib Go.Shelf

/-- The reference's parser lies in its block, at token p; b: a fault has been told, at p. -/
structure RSt (C : Ctx) (w : World) (b : Bool) (p : Nat) : Prop where
  blk : ∃ a, w.heap[C.pb]? = some (.cells #[.string C.s, .slice C.x C.ts.length C.c, .int .i64 p, .pointer a] 69 (0, 0)) ∧ (b = false → a = none) ∧
    (b = true → ∃ g, a = some ⟨g, 0, none⟩ ∧ g ≠ C.pb ∧ w.heap[g]? = some (.cells #[.int .i64 270, .int .i64 (placeT C.ts C.s.size p), .string ⟨(textT C.ts p).toArray⟩] 61 (0, 0)))
  row : TokRow w C.x C.ts
  xne : ∀ g, C.x = some ⟨g, 0, none⟩ → g ≠ C.pb
  le : p ≤ C.ts.length
  len : C.ts.length ≤ 4096
theorem RSt.lt {C : Ctx} {w : World} {b : Bool} {p : Nat} (h : RSt C w b p) : C.pb < w.heap.size := by
  obtain ⟨a, h1, _⟩ := h.blk
  exact (Array.getElem?_eq_some_iff.1 h1).1
theorem RSt.below {C : Ctx} {w w' : World} {b : Bool} {p : Nat} (h : RSt C w b p) (hb : Below w.heap.size w w') : RSt C w' b p := by
  obtain ⟨a, h1, h2, h3⟩ := h.blk
  refine ⟨⟨a, (hb.block _ h.lt).trans h1, h2, fun e => ?_⟩, h.row.below hb, h.xne, h.le, h.len⟩
  obtain ⟨g, k1, k2, k3⟩ := h3 e
  exact ⟨g, k1, k2, (hb.block _ (Array.getElem?_eq_some_iff.1 k3).1).trans k3⟩
/-- Its cells: no fault. -/
theorem RSt.cellsF {C : Ctx} {w : World} {p : Nat} (h : RSt C w false p) : w.cell? ⟨C.pb, 0, none⟩ = some (.string C.s) ∧ w.cell? ⟨C.pb, 1, none⟩ = some (.slice C.x C.ts.length C.c) ∧ w.cell? ⟨C.pb, 2, none⟩ = some (.int .i64 p) ∧ w.cell? ⟨C.pb, 3, none⟩ = some (.pointer none) ∧ w.frozen? ⟨C.pb, 2, none⟩ = false ∧ w.frozen? ⟨C.pb, 3, none⟩ = false := by
  obtain ⟨a, h1, h2, h3⟩ := h.blk
  obtain rfl := h2 rfl
  refine ⟨?_, ?_, ?_, ?_, ?_, ?_⟩ <;> simp [World.cell?, World.frozen?, h1]
/-- Its cells: a fault. -/
theorem RSt.cellsT {C : Ctx} {w : World} {p : Nat} (h : RSt C w true p) : ∃ g, w.cell? ⟨C.pb, 0, none⟩ = some (.string C.s) ∧ w.cell? ⟨C.pb, 1, none⟩ = some (.slice C.x C.ts.length C.c) ∧ w.cell? ⟨C.pb, 2, none⟩ = some (.int .i64 p) ∧ w.cell? ⟨C.pb, 3, none⟩ = some (.pointer (some ⟨g, 0, none⟩)) ∧ w.frozen? ⟨C.pb, 2, none⟩ = false ∧ w.frozen? ⟨C.pb, 3, none⟩ = false := by
  obtain ⟨a, h1, h2, h3⟩ := h.blk
  obtain ⟨g, rfl, _⟩ := h3 rfl
  refine ⟨g, ?_, ?_, ?_, ?_, ?_, ?_⟩ <;> simp [World.cell?, World.frozen?, h1]
/-- Its cells, whether a fault is told or not. -/
theorem RSt.cells {C : Ctx} {w : World} {b : Bool} {p : Nat} (h : RSt C w b p) : w.cell? ⟨C.pb, 0, none⟩ = some (.string C.s) ∧ w.cell? ⟨C.pb, 1, none⟩ = some (.slice C.x C.ts.length C.c) ∧ w.cell? ⟨C.pb, 2, none⟩ = some (.int .i64 p) := by
  obtain ⟨a, h1, h2, h3⟩ := h.blk
  refine ⟨?_, ?_, ?_⟩ <;> simp [World.cell?, h1]
/-- It goes one token on. -/
theorem RSt.step {C : Ctx} {w : World} {p : Nat} (h : RSt C w false p) {q : Nat} (hq : q ≤ C.ts.length) : RSt C (w.setCell ⟨C.pb, 2, none⟩ (.int .i64 q)) false q := by
  refine ⟨⟨none, ?_, fun _ => rfl, fun e => nomatch e⟩, ?_, h.xne, hq, h.len⟩
  · obtain ⟨a, h1, h2, h3⟩ := h.blk
    obtain rfl := h2 rfl
    simp only [World.setCell, Array.getElem?_modify, if_true, h1]
    rfl
  · intro i u hu
    obtain ⟨g, h1, h2, h3, h4⟩ := h.row i u hu
    have hg := h.xne g h1
    refine ⟨g, h1, ?_, ?_, ?_⟩
    · rw [World.cell?_of_block (Below.heap_setCell w _ _ _ hg)]; exact h2
    · rw [World.cell?_of_block (Below.heap_setCell w _ _ _ hg)]; exact h3
    · rw [World.cell?_of_block (Below.heap_setCell w _ _ _ hg)]; exact h4

/-- What the plain parser tells from a state: a fault that has been told stays. -/
def Tot {A : Type} (R : Nat → Res A) (b : Bool) (p : Nat) : Res A := if b then .bad p else R p
/-- What a result says of the state behind it. -/
def Mt {A : Type} (T : Res A) (b : Bool) (p : Nat) (a : A) : Prop := match T with
  | .out => False
  | .bad q => b = true ∧ p = q
  | .ok x q => b = false ∧ p = q ∧ a = x
theorem Mt.bind {A B : Type} {T : Res A} {b : Bool} {p : Nat} {a : A} (h : Mt T b p a) (f : A → Nat → Res B) : T.bind f = Tot (f a) b p := by
  cases T with
  | out => exact h.elim
  | bad q => obtain ⟨rfl, rfl⟩ := h; rfl
  | ok x q => obtain ⟨rfl, rfl, rfl⟩ := h; rfl
theorem tot_bind {A B : Type} (R : Nat → Res A) (f : A → Nat → Res B) (b : Bool) (p : Nat) : Tot (fun q => (R q).bind f) b p = (Tot R b p).bind f := by
  cases b <;> rfl
theorem tot_bad {A : Type} (R : Nat → Res A) (p : Nat) : Tot R true p = .bad p := rfl
theorem tot_go {A : Type} (R : Nat → Res A) (p : Nat) : Tot R false p = R p := rfl

set_option maxHeartbeats 4000000 in
set_option maxRecDepth 100000 in
/-- Where the token here begins. -/
theorem rplace_any (C : Ctx) (b : Bool) (p : Nat) (w : World) (h : RSt C w b p) :
    Calls Tryz.prog 81 #[.pointer (some ⟨C.pb, 0, none⟩)] w fun e w' => e = .returned (.int .i64 (placeT C.ts C.s.size p)) ∧ Below w.heap.size w w' := by
  obtain ⟨c0, c1, c2⟩ := h.cells
  have hl := h.len
  by_cases hp : p < C.ts.length
  · obtain ⟨t, ht⟩ : ∃ t, C.ts[p]? = some t := ⟨C.ts[p], List.getElem?_eq_getElem hp⟩
    obtain ⟨g, hx, k0, k1, k2⟩ := h.row p t ht
    rw [hx] at c1
    have e3 : placeT C.ts C.s.size p = t.2.2 := by unfold placeT; rw [ht]
    rw [e3]
    obtain ⟨n, hn⟩ : ∃ n, C.ts.length = n := ⟨_, rfl⟩
    rw [hn] at c1 hp hl
    have Q : decide ((p : Int) < (n : Int)) = true := by simp; omega
    clear h ht hx e3 hn
    go_enter Tryz.func81, Tryz.ntmps81
    go_wp2_with fail
    go_quiet (fail)
    go_wp2_with fail
    go_quiet (fail)
    go_wp2_with fail
    go_ret
    exact ⟨rfl, by repeat (first | exact Below.refl _ _ | refine bdn ?_ _)⟩
  · have hnone : C.ts[p]? = none := List.getElem?_eq_none (by omega)
    have e3 : placeT C.ts C.s.size p = C.s.size := by unfold placeT; rw [hnone]
    rw [e3]
    obtain ⟨n, hn⟩ : ∃ n, C.ts.length = n := ⟨_, rfl⟩
    rw [hn] at c1 hp hl
    have Q : decide ((p : Int) < (n : Int)) = false := by simp; omega
    clear h hnone e3 hn
    go_enter Tryz.func81, Tryz.ntmps81
    go_wp2_with fail
    go_quiet (fail)
    go_wp2_with fail
    go_ret
    exact ⟨rfl, by repeat (first | exact Below.refl _ _ | refine bdn ?_ _)⟩

set_option maxHeartbeats 4000000 in
set_option maxRecDepth 100000 in
/-- Does a name that is not reserved stand here? -/
theorem rnamed_any (C : Ctx) (b : Bool) (p : Nat) (w : World) (h : RSt C w b p) :
    Calls Tryz.prog 141 #[.pointer (some ⟨C.pb, 0, none⟩)] w fun e w' => e = .returned (.bool (!b && namedT C.ts p)) ∧ Below w.heap.size w w' := by
  have hl := h.len
  cases b
  · obtain ⟨c0, c1, c2, c3, _⟩ := h.cellsF
    by_cases hp : p < C.ts.length
    · obtain ⟨t, ht⟩ : ∃ t, C.ts[p]? = some t := ⟨C.ts[p], List.getElem?_eq_getElem hp⟩
      obtain ⟨g, hx, k0, k1, k2⟩ := h.row p t ht
      rw [hx] at c1
      have e1 : namedT C.ts p = (decide (((t.1 : Nat) : Int) = 0) && !resv t.2.1) := by unfold namedT kindT textT; rw [ht]
      obtain ⟨B, hB⟩ : ∃ B, namedT C.ts p = B := ⟨_, rfl⟩
      rw [hB] at e1 ⊢
      obtain ⟨k, hk⟩ : ∃ k : Int, ((t.1 : Nat) : Int) = k := ⟨_, rfl⟩
      obtain ⟨s, hs⟩ : ∃ s, t.2.1 = s := ⟨_, rfl⟩
      obtain ⟨n, hn⟩ : ∃ n, C.ts.length = n := ⟨_, rfl⟩
      rw [hk] at e1 k0
      rw [hs] at e1 k1
      rw [hn] at c1 hp hl
      have cr : ∀ w1, Calls Tryz.prog 140 #[.string ⟨s.toArray⟩] w1 fun e w' => e = .returned (.bool (resv s)) ∧ w' = w1 := fun w1 => (rresv_any s w1).mono fun _ _ h => ⟨h.1, h.2.symm⟩
      obtain ⟨r, hr⟩ : ∃ r, resv s = r := ⟨_, rfl⟩
      rw [hr] at e1 cr
      have Q : decide ((n : Int) ≤ (p : Int)) = false := by simp; omega
      clear h ht hx hn hB hk hs hr k2
      by_cases h3 : k = 0
      · subst h3
        have H : B = !r := by simpa using e1
        subst H
        clear e1
        go_enter Tryz.func141, Tryz.ntmps141
        go_wp2_with fail
        go_quiet (fail)
        go_wp2_with fail
        go_quiet ((go_at_call 140; exact (cr _).mono fun _ _ h => ⟨h.1, _, h.2⟩))
        go_wp2_with fail
        go_quiet (fail)
        go_wp2_with fail
        go_ret
        exact ⟨rfl, by repeat (first | exact Below.refl _ _ | refine bdn ?_ _)⟩
      · have Q3 : (k == 0) = false := beq_eq_false_iff_ne.2 h3
        have H : B = false := by simpa [h3] using e1
        subst H
        clear e1 h3
        go_enter Tryz.func141, Tryz.ntmps141
        go_wp2_with fail
        go_quiet (fail)
        go_wp2_with fail
        go_quiet ((go_at_call 140; exact (cr _).mono fun _ _ h => ⟨h.1, _, h.2⟩))
        go_wp2_with fail
        go_quiet (fail)
        go_wp2_with fail
        go_ret
        exact ⟨rfl, by repeat (first | exact Below.refl _ _ | refine bdn ?_ _)⟩
    · have hnone : C.ts[p]? = none := List.getElem?_eq_none (by omega)
      have e1 : namedT C.ts p = false := by unfold namedT kindT; rw [hnone]; rfl
      rw [e1]
      obtain ⟨n, hn⟩ : ∃ n, C.ts.length = n := ⟨_, rfl⟩
      rw [hn] at c1 hp hl
      have Q : decide ((n : Int) ≤ (p : Int)) = true := by simp; omega
      clear h hnone e1 hn
      go_enter Tryz.func141, Tryz.ntmps141
      go_wp2_with fail
      go_quiet (fail)
      go_wp2_with fail
      go_ret
      exact ⟨rfl, by repeat (first | exact Below.refl _ _ | refine bdn ?_ _)⟩
  · obtain ⟨g, c0, c1, c2, c3, _⟩ := h.cellsT
    clear h
    go_enter Tryz.func141, Tryz.ntmps141
    go_wp2_with fail
    go_quiet (fail)
    go_wp2_with fail
    go_ret
    exact ⟨rfl, by repeat (first | exact Below.refl _ _ | refine bdn ?_ _)⟩

set_option maxHeartbeats 4000000 in
set_option maxRecDepth 100000 in
/-- Does a sign, or a reserved word, stand here? -/
theorem ris_any (C : Ctx) (b : Bool) (p : Nat) (s : List UInt8) (w : World) (h : RSt C w b p) :
    Calls Tryz.prog 82 #[.pointer (some ⟨C.pb, 0, none⟩), .string ⟨s.toArray⟩] w fun e w' => e = .returned (.bool (!b && isT C.ts p s)) ∧ Below w.heap.size w w' := by
  have hl := h.len
  cases b
  · obtain ⟨c0, c1, c2, c3, _⟩ := h.cellsF
    by_cases hp : p < C.ts.length
    · obtain ⟨t, ht⟩ : ∃ t, C.ts[p]? = some t := ⟨C.ts[p], List.getElem?_eq_getElem hp⟩
      obtain ⟨g, hx, k0, k1, k2⟩ := h.row p t ht
      rw [hx] at c1
      have e1 : isT C.ts p s = (decide (t.2.1 = s) && (decide (((t.1 : Nat) : Int) = 2) || (decide (((t.1 : Nat) : Int) = 0) && resv s))) := by unfold isT kindT textT; rw [ht]
      obtain ⟨B, hB⟩ : ∃ B, isT C.ts p s = B := ⟨_, rfl⟩
      rw [hB] at e1 ⊢
      obtain ⟨k, hk⟩ : ∃ k : Int, ((t.1 : Nat) : Int) = k := ⟨_, rfl⟩
      obtain ⟨u, hu⟩ : ∃ u, t.2.1 = u := ⟨_, rfl⟩
      obtain ⟨n, hn⟩ : ∃ n, C.ts.length = n := ⟨_, rfl⟩
      rw [hk] at e1 k0
      rw [hu] at e1 k1
      rw [hn] at c1 hp hl
      have cr := fun w1 => rresv_any s w1
      obtain ⟨r, hr⟩ : ∃ r, resv s = r := ⟨_, rfl⟩
      rw [hr] at e1 cr
      have Q : decide ((n : Int) ≤ (p : Int)) = false := by simp; omega
      clear h ht hx hn hB hk hu hr
      obtain ⟨q, hq⟩ : ∃ q : Int, ((t.2.2 : Nat) : Int) = q := ⟨_, rfl⟩
      rw [hq] at k2
      clear hq
      go_enter Tryz.func82, Tryz.ntmps82
      go_wp2_with fail
      go_quiet (fail)
      go_wp2_with fail
      have HB : Below w.heap.size w (w.drewN nq) := bdn (Below.refl _ _) _
      have HBh := Lib.hid HB
      replace c1 : (w.drewN nq).cell? _ = _ := c1
      replace c2 : (w.drewN nq).cell? _ = _ := c2
      replace k0 : (w.drewN nq).cell? _ = _ := k0
      replace k1 : (w.drewN nq).cell? _ = _ := k1
      replace k2 : (w.drewN nq).cell? _ = _ := k2
      clear c0 c3 HB
      generalize World.drewN w nq = W at *
      have a0 : ∀ o, (W.alloc o).cell? ⟨C.pb, 1, none⟩ = some (.slice (some ⟨g, 0, none⟩) n C.c) := fun o => al_cell c1 o
      have a2 : ∀ o, (W.alloc o).cell? ⟨C.pb, 2, none⟩ = some (.int .i64 p) := fun o => al_cell c2 o
      have b0 : ∀ o, (W.alloc o).cell? ⟨g, p * 3, none⟩ = some (.int .i64 k) := fun o => al_cell k0 o
      have b1 : ∀ o, (W.alloc o).cell? ⟨g, p * 3 + 1, none⟩ = some (.string ⟨u.toArray⟩) := fun o => al_cell k1 o
      have b2 : ∀ o, (W.alloc o).cell? ⟨g, p * 3 + 2, none⟩ = some (.int .i64 q) := fun o => al_cell k2 o
      go_region
      clear a0 a2 b0 b1 b2
      by_cases h1 : u = s
      · subst h1
        by_cases h2 : k = 2
        · subst h2
          have H : B = true := by simpa using e1
          subst H
          clear e1
          clear c1 c2 k0 k1 k2
          go_wp2_with ((go_at_call 140; (with_reducible refine (cr _).mono ?_); rintro e w2 ⟨rfl, rfl⟩))
          go_ret
          exact ⟨rfl, (HBh.out.alloc HBh.out.size _).trans ⟨rfl, rfl, rfl, Nat.le_refl _, fun _ _ => rfl⟩⟩
        · have Q2 : (k == 2) = false := beq_eq_false_iff_ne.2 h2
          by_cases h3 : k = 0
          · subst h3
            have H : B = r := by simpa using e1
            subst H
            clear e1
            clear c1 c2 k0 k1 k2
            go_wp2_with ((go_at_call 140; (with_reducible refine (cr _).mono ?_); rintro e w2 ⟨rfl, rfl⟩))
            go_ret
            exact ⟨rfl, (HBh.out.alloc HBh.out.size _).trans ⟨rfl, rfl, rfl, Nat.le_refl _, fun _ _ => rfl⟩⟩
          · have Q3 : (k == 0) = false := beq_eq_false_iff_ne.2 h3
            have H : B = false := by simpa [h2, h3] using e1
            subst H
            clear e1
            clear c1 c2 k0 k1 k2
            go_wp2_with ((go_at_call 140; (with_reducible refine (cr _).mono ?_); rintro e w2 ⟨rfl, rfl⟩))
            go_ret
            exact ⟨rfl, (HBh.out.alloc HBh.out.size _).trans ⟨rfl, rfl, rfl, Nat.le_refl _, fun _ _ => rfl⟩⟩
      · have Q1 := str_ne h1
        have H : B = false := by simpa [h1] using e1
        subst H
        clear e1
        go_wp2_with ((go_at_call 140; (with_reducible refine (cr _).mono ?_); rintro e w2 ⟨rfl, rfl⟩))
        go_ret
        exact ⟨rfl, (HBh.out.alloc HBh.out.size _).trans ⟨rfl, rfl, rfl, Nat.le_refl _, fun _ _ => rfl⟩⟩
    · have hnone : C.ts[p]? = none := List.getElem?_eq_none (by omega)
      have e1 : isT C.ts p s = false := by unfold isT kindT; rw [hnone]; simp
      rw [e1]
      obtain ⟨n, hn⟩ : ∃ n, C.ts.length = n := ⟨_, rfl⟩
      rw [hn] at c1 hp hl
      have Q : decide ((n : Int) ≤ (p : Int)) = true := by simp; omega
      clear h hnone e1 hn
      go_enter Tryz.func82, Tryz.ntmps82
      go_wp2_with fail
      go_quiet (fail)
      go_wp2_with fail
      go_ret
      exact ⟨rfl, by repeat (first | exact Below.refl _ _ | refine bdn ?_ _)⟩
  · obtain ⟨g, c0, c1, c2, c3, _⟩ := h.cellsT
    clear h
    go_enter Tryz.func82, Tryz.ntmps82
    go_wp2_with fail
    go_quiet (fail)
    go_wp2_with fail
    go_ret
    exact ⟨rfl, by repeat (first | exact Below.refl _ _ | refine bdn ?_ _)⟩

theorem RSt.setBad {C : Ctx} {w w' : World} {p g : Nat} (h : RSt C w false p) (hp : w'.heap[C.pb]? = some (.cells #[.string C.s, .slice C.x C.ts.length C.c, .int .i64 p, .pointer (some ⟨g, 0, none⟩)] 69 (0, 0)))
    (hg : w.heap.size ≤ g) (hf : w'.heap[g]? = some (.cells #[.int .i64 270, .int .i64 (placeT C.ts C.s.size p), .string ⟨(textT C.ts p).toArray⟩] 61 (0, 0))) (ho : Ow C.pb w w') : RSt C w' true p := by
  refine ⟨⟨some ⟨g, 0, none⟩, hp, fun e => (nomatch e), fun _ => ⟨g, rfl, ?_, hf⟩⟩, ?_, h.xne, h.le, h.len⟩
  · have := h.lt
    omega
  · intro i u hu
    obtain ⟨b, h1, h2, h3, h4⟩ := h.row i u hu
    have hb := h.xne b h1
    exact ⟨b, h1, ho.cell (p := ⟨b, i * 3, none⟩) hb h2, ho.cell (p := ⟨b, i * 3 + 1, none⟩) hb h3, ho.cell (p := ⟨b, i * 3 + 2, none⟩) hb h4⟩

/-- A fault is laid, and the parser's word of it. -/
theorem RSt.told {C : Ctx} {w : World} {p : Nat} (h : RSt C w false p) (x : List Value) (t : TypeId) (m : Nat) (w' : World) (e : w' = ((w.setCell ⟨C.pb, 3, none⟩ (.pointer (some ⟨w.heap.size, 0, none⟩))).alloc (.cells x.toArray t)).drewN m) :
    w'.heap[C.pb]? = some (.cells #[.string C.s, .slice C.x C.ts.length C.c, .int .i64 p, .pointer (some ⟨w.heap.size, 0, none⟩)] 69 (0, 0)) ∧ w'.heap[w.heap.size]? = some (.cells x.toArray t) ∧ Ow C.pb w w' := by
  subst e
  obtain ⟨a, h1, h2, h3⟩ := h.blk
  obtain rfl := h2 rfl
  have hlt := h.lt
  refine ⟨?_, ?_, ?_⟩
  · show ((w.setCell ⟨C.pb, 3, none⟩ (.pointer (some ⟨w.heap.size, 0, none⟩))).alloc (.cells x.toArray t)).heap[C.pb]? = _
    simp only [World.alloc, World.setCell, Array.getElem?_push, Array.size_modify, Array.getElem?_modify, if_true, h1]
    rw [if_neg (by omega)]
    rfl
  · show ((w.setCell ⟨C.pb, 3, none⟩ (.pointer (some ⟨w.heap.size, 0, none⟩))).alloc (.cells x.toArray t)).heap[w.heap.size]? = _
    simp only [World.alloc, World.setCell, Array.getElem?_push, Array.size_modify, if_true]
  · exact (((Ow.refl C.pb w).setCell (a := ⟨C.pb, 3, none⟩) (.inl rfl) _).alloc _).drewN _

set_option maxHeartbeats 4000000 in
set_option maxRecDepth 100000 in
/-- The token that stands here can't: the first fault is kept. -/
theorem rfail_any (C : Ctx) (b : Bool) (p : Nat) (w : World) (h : RSt C w b p) :
    Calls Tryz.prog 142 #[.pointer (some ⟨C.pb, 0, none⟩)] w fun e w' => e = .returned (.tuple #[]) ∧ RSt C w' true p ∧ Ow C.pb w w' := by
  have hl := h.len
  cases b
  · obtain ⟨c0, c1, c2, c3, c4, c5⟩ := h.cellsF
    have H := Lib.hid h
    have hlt := h.lt
    have HB : Hid (w.heap[C.pb]? = some (.cells #[.string C.s, .slice C.x C.ts.length C.c, .int .i64 p, .pointer none] 69 (0, 0))) := by
      obtain ⟨a, h1, h2, _⟩ := h.blk
      obtain rfl := h2 rfl
      exact h1
    by_cases hp : p < C.ts.length
    · obtain ⟨t, ht⟩ : ∃ t, C.ts[p]? = some t := ⟨C.ts[p], List.getElem?_eq_getElem hp⟩
      obtain ⟨g, hx, k0, k1, k2⟩ := h.row p t ht
      have hgp := h.xne g hx
      have e2 : placeT C.ts C.s.size p = t.2.2 := by unfold placeT; rw [ht]
      have e3 : textT C.ts p = t.2.1 := by unfold textT; rw [ht]
      have E2 := Lib.hid e2
      have E3 := Lib.hid e3
      rw [hx] at c1
      obtain ⟨n, hn⟩ : ∃ n, C.ts.length = n := ⟨_, rfl⟩
      rw [hn] at c1 hp hl
      have Q : decide ((p : Int) < (n : Int)) = true := by simp; omega
      clear h ht e2 e3
      go_enter Tryz.func142, Tryz.ntmps142
      go_wp2_with fail
      go_quiet (fail)
      obtain ⟨W, hW⟩ : ∃ W, (((w.setCell ⟨C.pb, 3, none⟩ (.pointer (some ⟨w.heap.size, 0, none⟩))).alloc (.cells #[.int .i64 270, .int .i64 C.s.size, .string ⟨#[]⟩] 61)).drewN nq) = W := ⟨_, rfl⟩
      obtain ⟨b1, b2, b3⟩ := H.out.told _ _ _ W hW.symm
      rw [hW]
      have hgl : g < w.heap.size := World.block_lt_of_cell? w _ k0
      obtain ⟨f, hf⟩ : ∃ f, w.heap.size = f := ⟨_, rfl⟩
      rw [hf] at b1 b2 hgl hlt
      rw [hf]
      have B1 := Lib.hid b1
      have B2 := Lib.hid b2
      have B3 := Lib.hid b3
      have HF := Lib.hid hf
      have d0 : W.cell? ⟨C.pb, 1, none⟩ = some (.slice (some ⟨g, 0, none⟩) n C.c) := by simp only [World.cell?, b1]; simp [hx, hn]
      have d1 : W.cell? ⟨C.pb, 2, none⟩ = some (.int .i64 p) := by simp [World.cell?, b1]
      have d2 : W.cell? ⟨C.pb, 3, none⟩ = some (.pointer (some ⟨f, 0, none⟩)) := by simp [World.cell?, b1]
      have d3 : W.cell? ⟨g, p * 3 + 1, none⟩ = some (.string ⟨t.2.1.toArray⟩) := b3.cell (p := ⟨g, p * 3 + 1, none⟩) hgp k1
      have d4 : W.cell? ⟨g, p * 3 + 2, none⟩ = some (.int .i64 t.2.2) := b3.cell (p := ⟨g, p * 3 + 2, none⟩) hgp k2
      have d5 : W.cell? ⟨f, 1, none⟩ = some (.int .i64 C.s.size) := by simp [World.cell?, b2]
      have d6 : W.cell? ⟨f, 2, none⟩ = some (.string ⟨#[]⟩) := by simp [World.cell?, b2]
      have d7 : W.frozen? ⟨f, 1, none⟩ = false := by simp [World.frozen?, b2]
      have d8 : W.frozen? ⟨f, 2, none⟩ = false := by simp [World.frozen?, b2]
      have n1 : C.pb ≠ f := by omega
      have n2 : g ≠ f := by omega
      have f0 : ∀ v, (W.setCell ⟨f, 1, none⟩ v).cell? ⟨C.pb, 1, none⟩ = some (.slice (some ⟨g, 0, none⟩) n C.c) := fun v => (World.cell?_of_block (Below.heap_setCell W _ _ _ n1)).trans d0
      have f1 : ∀ v, (W.setCell ⟨f, 1, none⟩ v).cell? ⟨C.pb, 2, none⟩ = some (.int .i64 p) := fun v => (World.cell?_of_block (Below.heap_setCell W _ _ _ n1)).trans d1
      have f2 : ∀ v, (W.setCell ⟨f, 1, none⟩ v).cell? ⟨C.pb, 3, none⟩ = some (.pointer (some ⟨f, 0, none⟩)) := fun v => (World.cell?_of_block (Below.heap_setCell W _ _ _ n1)).trans d2
      have f3 : ∀ v, (W.setCell ⟨f, 1, none⟩ v).cell? ⟨g, p * 3 + 1, none⟩ = some (.string ⟨t.2.1.toArray⟩) := fun v => (World.cell?_of_block (Below.heap_setCell W _ _ _ n2)).trans d3
      clear b1 b2 b3 hf c0 c1 c2 c3 c4 c5 k0 k1 k2 hW
      go_wp2_with fail
      go_region
      go_wp2_with fail
      go_region
      go_wp2_with fail
      go_end0
      have O : Ow C.pb w ((W.setCell ⟨f, 1, none⟩ (.int .i64 t.2.2)).setCell ⟨f, 2, none⟩ (.string ⟨t.2.1.toArray⟩)) :=
        (B3.out.setCell (a := ⟨f, 1, none⟩) (.inr (Nat.le_of_eq HF.out)) _).setCell (a := ⟨f, 2, none⟩) (.inr (Nat.le_of_eq HF.out)) _
      have O1 : ((W.setCell ⟨f, 1, none⟩ (.int .i64 t.2.2)).setCell ⟨f, 2, none⟩ (.string ⟨t.2.1.toArray⟩)).heap[C.pb]? = _ :=
        (Below.heap_setCell _ _ _ _ n1).trans ((Below.heap_setCell _ _ _ _ n1).trans B1.out)
      have O2 : ((W.setCell ⟨f, 1, none⟩ (.int .i64 t.2.2)).setCell ⟨f, 2, none⟩ (.string ⟨t.2.1.toArray⟩)).heap[f]? = some (.cells #[.int .i64 270, .int .i64 (placeT C.ts C.s.size p), .string ⟨(textT C.ts p).toArray⟩] 61 (0, 0)) := by
        rw [E2.out, E3.out]
        simp only [World.setCell, Array.getElem?_modify, if_true, B2.out]
        rfl
      have O3 := O.drew.drew
      exact ⟨rfl, H.out.setBad O1 (Nat.le_of_eq HF.out) O2 O3, O3⟩

    · have hnone : C.ts[p]? = none := List.getElem?_eq_none (by omega)
      have e2 : placeT C.ts C.s.size p = C.s.size := by unfold placeT; rw [hnone]
      have e3 : textT C.ts p = [] := by unfold textT; rw [hnone]
      have E2 := Lib.hid e2
      have E3 := Lib.hid e3
      obtain ⟨n, hn⟩ : ∃ n, C.ts.length = n := ⟨_, rfl⟩
      rw [hn] at c1 hp hl
      have Q : decide ((p : Int) < (n : Int)) = false := by simp; omega
      clear h hnone hn e2 e3
      go_enter Tryz.func142, Tryz.ntmps142
      go_wp2_with fail
      go_quiet (fail)
      go_wp2_with fail
      go_end0
      obtain ⟨b1, b2, b3⟩ := H.out.told _ _ _ _ rfl
      exact ⟨rfl, H.out.setBad b1 (Nat.le_refl _) (by rw [E2.out, E3.out]; exact b2) b3, b3⟩

  · obtain ⟨g, c0, c1, c2, c3, _⟩ := h.cellsT
    have H := Lib.hid h
    clear h
    go_enter Tryz.func142, Tryz.ntmps142
    go_wp2_with fail
    refine bodyPost_ret (results_none rfl _ _ _) rfl ?_
    exact ⟨rfl, H.out, Ow.refl _ _⟩

set_option maxHeartbeats 4000000 in
set_option maxRecDepth 100000 in
/-- A sign or a reserved word that must stand here. -/
theorem rtake_any (C : Ctx) (b : Bool) (p : Nat) (s : List UInt8) (w : World) (h : RSt C w b p) :
    Calls Tryz.prog 86 #[.pointer (some ⟨C.pb, 0, none⟩), .string ⟨s.toArray⟩] w fun e w' => ∃ b' p' a, Mt (Tot (takeP C.ts C.s.size s) b p) b' p' a ∧ e = .returned (.int .i64 (placeT C.ts C.s.size p)) ∧ RSt C w' b' p' ∧ Ow C.pb w w' := by
  have c0 := rplace_any C b p w h
  have c1 := fun w1 (hb : Below w.heap.size w w1) => ris_any C b p s w1 (h.below hb)
  have c2 := fun w1 (hb : Below w.heap.size w w1) => rfail_any C b p w1 (h.below hb)
  obtain ⟨q, hq⟩ : ∃ q, placeT C.ts C.s.size p = q := ⟨_, rfl⟩
  rw [hq] at c0 ⊢
  have hT : takeP C.ts C.s.size s p = if isT C.ts p s then .ok (placeT C.ts C.s.size p) (p + 1) else .bad p := rfl
  cases hB : (!b && isT C.ts p s)
  · have hM : Mt (Tot (takeP C.ts C.s.size s) b p) true p q := by
      cases b
      · rw [tot_go, hT, if_neg (by simpa using hB)]
        exact ⟨rfl, rfl⟩
      · exact ⟨rfl, rfl⟩
    rw [hB] at c1
    have HM := Lib.hid hM
    clear h hT hB hM
    go_enter Tryz.func86, Tryz.ntmps86
    go_wp2_with (first | (go_at_call 81; (with_reducible refine c0.mono ?_); rintro e w1 ⟨rfl, hb1⟩) | (go_at_call 82; (with_reducible refine (c1 _ hb1).mono ?_); rintro e w2 ⟨rfl, hb2⟩) | (go_at_call 142; (with_reducible refine (c2 _ (tr hb1 hb2)).mono ?_); rintro e w3 ⟨rfl, hs3, ho3⟩; have HS := Lib.hid hs3; clear hs3))
    go_ret
    exact ⟨true, p, q, HM.out, rfl, HS.out, (Ow.of_below (tr hb1 hb2)).trans ho3⟩
  · obtain ⟨rfl, hi⟩ : b = false ∧ isT C.ts p s = true := by
      cases b <;> simp_all
    have hp := isT_lt hi
    have hl := h.len
    have hM : Mt (Tot (takeP C.ts C.s.size s) false p) false (p + 1) q := by
      rw [tot_go, hT, if_pos hi]
      exact ⟨rfl, rfl, hq.symm⟩
    rw [hB] at c1
    have H := Lib.hid h
    have HM := Lib.hid hM
    have hS : ∀ w1, Below w.heap.size w w1 → w1.cell? ⟨C.pb, 2, none⟩ = some (.int .i64 p) ∧ w1.frozen? ⟨C.pb, 2, none⟩ = false ∧ Hid (RSt C w1 false p) := fun w1 hb => ⟨(h.below hb).cellsF.2.2.1, (h.below hb).cellsF.2.2.2.2.1, h.below hb⟩
    have X1 : IntKind.i64.wrap ((p : Int) + 1) = ((p + 1 : Nat) : Int) := by rw [IntWalk.i64_in _ (by omega)]; simp
    obtain ⟨n, hn⟩ : ∃ n, C.ts.length = n := ⟨_, rfl⟩
    have HN := Lib.hid hn
    rw [hn] at hp hl
    clear h hT hB hM hi hn c2
    go_enter Tryz.func86, Tryz.ntmps86
    go_wp2_with (first | (go_at_call 81; (with_reducible refine c0.mono ?_); rintro e w1 ⟨rfl, hb1⟩) | (go_at_call 82; (with_reducible refine (c1 _ hb1).mono ?_); rintro e w2 ⟨rfl, hb2⟩; obtain ⟨k1, k2, k3⟩ := hS w2 (tr hb1 hb2)))
    go_ret
    refine ⟨false, p + 1, q, HM.out, rfl, ?_, (Ow.of_below (tr hb1 hb2)).setCell (a := ⟨C.pb, 2, none⟩) (.inl rfl) _⟩
    exact k3.out.step (q := p + 1) (by rw [HN.out]; omega)

set_option maxHeartbeats 4000000 in
set_option maxRecDepth 100000 in
/-- A name that must stand here. -/
theorem rnameq_any (C : Ctx) (b : Bool) (p : Nat) (w : World) (h : RSt C w b p) :
    Calls Tryz.prog 83 #[.pointer (some ⟨C.pb, 0, none⟩)] w fun e w' => ∃ b' p' a, Mt (Tot (nameP C.ts) b p) b' p' a ∧ e = .returned (.string ⟨a.toArray⟩) ∧ RSt C w' b' p' ∧ Ow C.pb w w' := by
  have c0 := rnamed_any C b p w h
  have c2 := fun w1 (hb : Below w.heap.size w w1) => rfail_any C b p w1 (h.below hb)
  have hT : nameP C.ts p = if namedT C.ts p then .ok (textT C.ts p) (p + 1) else .bad p := rfl
  cases hB : (!b && namedT C.ts p)
  · have hM : Mt (Tot (nameP C.ts) b p) true p ([] : List UInt8) := by
      cases b
      · rw [tot_go, hT, if_neg (by simpa using hB)]
        exact ⟨rfl, rfl⟩
      · exact ⟨rfl, rfl⟩
    rw [hB] at c0
    have HM := Lib.hid hM
    clear h hT hB hM
    go_enter Tryz.func83, Tryz.ntmps83
    go_wp2_with (first | (go_at_call 141; (with_reducible refine c0.mono ?_); rintro e w1 ⟨rfl, hb1⟩) | (go_at_call 142; (with_reducible refine (c2 _ hb1).mono ?_); rintro e w3 ⟨rfl, hs3, ho3⟩; have HS := Lib.hid hs3; clear hs3))
    go_ret
    exact ⟨true, p, [], HM.out, rfl, HS.out, (Ow.of_below hb1).trans ho3⟩
  · obtain ⟨rfl, hi⟩ : b = false ∧ namedT C.ts p = true := by
      cases b <;> simp_all
    have hp := namedT_lt hi
    have hM : Mt (Tot (nameP C.ts) false p) false (p + 1) (textT C.ts p) := by
      rw [tot_go, hT, if_pos hi]
      exact ⟨rfl, rfl, rfl⟩
    rw [hB] at c0
    obtain ⟨t, ht⟩ : ∃ t, C.ts[p]? = some t := ⟨C.ts[p], List.getElem?_eq_getElem hp⟩
    have e2 : textT C.ts p = t.2.1 := by unfold textT; rw [ht]
    rw [e2] at hM
    have HM := Lib.hid hM
    have hl := h.len
    have X1 : IntKind.i64.wrap ((p : Int) + 1) = ((p + 1 : Nat) : Int) := by rw [IntWalk.i64_in _ (by omega)]; simp
    have X2 : IntKind.i64.wrap ((p : Int) + 1 - 1) = (p : Int) := by rw [IntWalk.i64_in _ (by omega)]; omega
    have X3 : IntKind.i64.wrap (p : Int) = (p : Int) := IntWalk.i64_in _ (by omega)
    obtain ⟨g, hx, _⟩ := h.row p t ht
    obtain ⟨n, hn⟩ : ∃ n, C.ts.length = n := ⟨_, rfl⟩
    have hS : ∀ w1, Below w.heap.size w w1 → w1.cell? ⟨C.pb, 2, none⟩ = some (.int .i64 p) ∧ w1.frozen? ⟨C.pb, 2, none⟩ = false ∧ w1.cell? ⟨C.pb, 1, none⟩ = some (.slice (some ⟨g, 0, none⟩) n C.c) ∧
        (w1.setCell ⟨C.pb, 2, none⟩ (.int .i64 ((p : Int) + 1))).cell? ⟨g, p * 3 + 1, none⟩ = some (.string ⟨t.2.1.toArray⟩) ∧ Hid (RSt C (w1.setCell ⟨C.pb, 2, none⟩ (.int .i64 ((p : Int) + 1))) false (p + 1)) := fun w1 hb => by
      have h1 := h.below hb
      have h2 : RSt C (w1.setCell ⟨C.pb, 2, none⟩ (.int .i64 ((p : Int) + 1))) false (p + 1) := h1.step hp
      obtain ⟨g', hx', j0, j1, j2⟩ := h2.row p t ht
      rw [hx] at hx'
      cases hx'
      refine ⟨h1.cellsF.2.2.1, h1.cellsF.2.2.2.2.1, ?_, j1, h2⟩
      rw [← hx, ← hn]
      exact h1.cellsF.2.1
    rw [hn] at hp hl
    clear h hT hB hM hi ht e2 hx hn c2
    go_enter Tryz.func83, Tryz.ntmps83
    go_wp2_with (first | (go_at_call 141; (with_reducible refine c0.mono ?_); rintro e w1 ⟨rfl, hb1⟩; obtain ⟨k1, k2, k3, k4, k5⟩ := hS w1 hb1))
    go_quiet (fail)
    go_wp2
    go_ret
    exact ⟨false, p + 1, _, HM.out, rfl, (k5.out.below (bdn (Below.refl _ _) _)), ((Ow.of_below hb1).setCell (a := ⟨C.pb, 2, none⟩) (.inl rfl) _).drewN _⟩
end Go.Proofs.YtpbkeamjdolpgaaGreatDoor
