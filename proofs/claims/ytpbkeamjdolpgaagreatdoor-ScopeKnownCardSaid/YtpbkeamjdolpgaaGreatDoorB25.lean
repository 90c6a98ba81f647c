/- Plain: the words of a right tree are parsed to the same tree. -/
import Derived.Test.YtpbkeamjdolpgaaGreatDoorB23
import Derived.Test.YtpbkeamjdolpgaaGreatDoorB08
namespace Go.Proofs.YtpbkeamjdolpgaaGreatDoor

/-- These words stand from token p on. -/
def At (ts : List Tk) (p : Nat) (ws : List Wd) : Prop := ∀ i w, ws[i]? = some w → kindT ts (p + i) = w.1 ∧ textT ts (p + i) = w.2
theorem At.cons {ts : List Tk} {p : Nat} {w : Wd} {b : List Wd} (h : At ts p (w :: b)) : (kindT ts p = w.1 ∧ textT ts p = w.2) ∧ At ts (p + 1) b :=
  ⟨h 0 w rfl, fun i v hv => by rw [Nat.add_assoc, Nat.add_comm 1]; exact h (i + 1) v (by simpa using hv)⟩
theorem At.app {ts : List Tk} : ∀ {a b : List Wd} {p : Nat}, At ts p (a ++ b) → At ts p a ∧ At ts (p + a.length) b
  | [], _, _, h => ⟨fun i w hw => by simp at hw, h⟩
  | v :: a, b, p, h => by
    obtain ⟨h1, h2⟩ := h.cons
    obtain ⟨h3, h4⟩ := At.app h2
    refine ⟨fun i w hw => ?_, ?_⟩
    · cases i with
      | zero =>
        cases hw
        exact h1
      | succ i =>
        have := h3 i w (by simpa using hw)
        rwa [Nat.add_assoc, Nat.add_comm 1] at this
    · rw [List.length_cons, Nat.add_comm a.length, ← Nat.add_assoc]
      exact h4
section
variable {ts : List Tk} {L : Nat}
theorem is_two {p : Nat} {s : List UInt8} (h : kindT ts p = ((2 : Nat) : Int) ∧ textT ts p = s) (s' : List UInt8) : isT ts p s' = decide (s = s') := by
  unfold isT
  rw [h.1, h.2]
  simp
theorem is_plain {p : Nat} {s : List UInt8} (h : kindT ts p = ((0 : Nat) : Int) ∧ textT ts p = s) (hr : resv s = false) (s' : List UInt8) : isT ts p s' = false := by
  unfold isT
  rw [h.1, h.2]
  by_cases e : s = s'
  · subst e
    rw [hr]
    simp
  · simp [e]
theorem named_plain {p : Nat} {s : List UInt8} (h : kindT ts p = ((0 : Nat) : Int) ∧ textT ts p = s) (hr : resv s = false) : nameP ts p = .ok s (p + 1) := by
  unfold nameP namedT
  rw [h.1, h.2, hr]
  rfl
theorem is_num {p : Nat} (h : kindT ts p = ((1 : Nat) : Int)) (s' : List UInt8) : isT ts p s' = false := by
  unfold isT
  rw [h]
  simp
theorem is_kw {p : Nat} {s : List UInt8} (h : kindT ts p = ((0 : Nat) : Int) ∧ textT ts p = s) (hr : resv s = true) (s' : List UInt8) : isT ts p s' = decide (s = s') := by
  unfold isT
  rw [h.1, h.2]
  by_cases e : s = s'
  · subst e
    rw [hr]
    simp
  · simp [e]
theorem is_not2 {p : Nat} {s : List UInt8} (h : kindT ts p = ((0 : Nat) : Int) ∧ textT ts p = s) {s' : List UInt8} (hr : resv s' = false) : isT ts p s' = false := by
  unfold isT
  rw [h.1, hr]
  simp
theorem take_two {p : Nat} {s : List UInt8} (h : kindT ts p = ((2 : Nat) : Int) ∧ textT ts p = s) : takeP ts L s p = .ok (placeT ts L p) (p + 1) := by
  unfold takeP
  rw [is_two h, if_pos (by simp)]

/-- Nothing stands here that an expression of this level goes on with. -/
def Stp (ts : List Tk) (q a : Nat) : Prop := isT ts q [40] = false ∧ (a ≤ 7 → isT ts q [91] = false) ∧ (∀ k, k < 5 → a ≤ k + 1 → anyT ts q (signsK k) = false) ∧ (a = 0 → isT ts q [63] = false)
theorem Stp.mono {q a b : Nat} (h : Stp ts q a) (hab : a ≤ b) : Stp ts q b := ⟨h.1, fun hb => h.2.1 (by omega), fun k hk hb => h.2.2.1 k hk (by omega), fun hb => h.2.2.2 (by omega)⟩
theorem any_two {p : Nat} {s : List UInt8} (h : kindT ts p = ((2 : Nat) : Int) ∧ textT ts p = s) (l : List (List UInt8)) : anyT ts p l = decide (s ∈ l) := by
  unfold anyT
  induction l with
  | nil => rfl
  | cons x r ih =>
    rw [List.any_cons, ih, is_two h]
    simp
/-- Signs behind which an expression has ended. -/
theorem Stp.sign {q : Nat} {s : List UInt8} (h : kindT ts q = ((2 : Nat) : Int) ∧ textT ts q = s) (hs : s = [41] ∨ s = [93] ∨ s = [44] ∨ s = [59] ∨ s = [58]) (a : Nat) : Stp ts q a := by
  refine ⟨?_, fun _ => ?_, fun k hk _ => ?_, fun _ => ?_⟩
  · rw [is_two h]
    rcases hs with rfl | rfl | rfl | rfl | rfl <;> decide
  · rw [is_two h]
    rcases hs with rfl | rfl | rfl | rfl | rfl <;> decide
  · rw [any_two h]
    match k, hk with
    | 0, _ => rcases hs with rfl | rfl | rfl | rfl | rfl <;> decide
    | 1, _ => rcases hs with rfl | rfl | rfl | rfl | rfl <;> decide
    | 2, _ => rcases hs with rfl | rfl | rfl | rfl | rfl <;> decide
    | 3, _ => rcases hs with rfl | rfl | rfl | rfl | rfl <;> decide
    | 4, _ => rcases hs with rfl | rfl | rfl | rfl | rfl <;> decide
  · rw [is_two h]
    rcases hs with rfl | rfl | rfl | rfl | rfl <;> decide
theorem Stp.ask {q : Nat} (h : kindT ts q = ((2 : Nat) : Int) ∧ textT ts q = [63]) : Stp ts q 1 := by
  refine ⟨?_, fun _ => ?_, fun k hk _ => ?_, fun h => by omega⟩
  · rw [is_two h]; decide
  · rw [is_two h]; decide
  · rw [any_two h]
    match k, hk with
    | 0, _ => decide
    | 1, _ => decide
    | 2, _ => decide
    | 3, _ => decide
    | 4, _ => decide
theorem level_mem {s : List UInt8} {a : Nat} (h : levelS s = a) (ha : 0 < a) : a ≤ 5 ∧ s ∈ signsK (a - 1) := by
  unfold levelS at h
  by_cases h0 : s ∈ signsK 0
  · rw [if_pos h0] at h; subst h; exact ⟨by decide, h0⟩
  rw [if_neg h0] at h
  by_cases h1 : s ∈ signsK 1
  · rw [if_pos h1] at h; subst h; exact ⟨by decide, h1⟩
  rw [if_neg h1] at h
  by_cases h2 : s ∈ signsK 2
  · rw [if_pos h2] at h; subst h; exact ⟨by decide, h2⟩
  rw [if_neg h2] at h
  by_cases h3 : s ∈ signsK 3
  · rw [if_pos h3] at h; subst h; exact ⟨by decide, h3⟩
  rw [if_neg h3] at h
  by_cases h4 : s ∈ signsK 4
  · rw [if_pos h4] at h; subst h; exact ⟨by decide, h4⟩
  rw [if_neg h4] at h
  omega
theorem sign_cases {s : List UInt8} {a : Nat} (h : levelS s = a) (ha : 0 < a) : (a = 1 ∧ s = [124, 124]) ∨ (a = 2 ∧ s = [38, 38]) ∨ (a = 3 ∧ (s = [60] ∨ s = [60, 61] ∨ s = [61, 61] ∨ s = [33, 61] ∨ s = [62, 61] ∨ s = [62])) ∨ (a = 4 ∧ (s = [43] ∨ s = [45])) ∨ (a = 5 ∧ (s = [42] ∨ s = [47])) := by
  obtain ⟨h1, h2⟩ := level_mem h ha
  match a, ha, h1 with
  | 1, _, _ => simp [signsK] at h2; simp [h2]
  | 2, _, _ => simp [signsK] at h2; simp [h2]
  | 3, _, _ => simp [signsK] at h2; simp [h2]
  | 4, _, _ => simp [signsK] at h2; simp [h2]
  | 5, _, _ => simp [signsK] at h2; simp [h2]
/-- A sign of two ends what binds more tightly. -/
theorem Stp.op {q a : Nat} {s : List UInt8} (h : kindT ts q = ((2 : Nat) : Int) ∧ textT ts q = s) (hs : levelS s = a) (ha : 0 < a) : Stp ts q (a + 1) := by
  have hc := sign_cases hs ha
  refine ⟨?_, fun _ => ?_, fun k hk hka => ?_, fun h => by omega⟩
  · rw [is_two h]
    rcases hc with ⟨_, rfl⟩ | ⟨_, rfl⟩ | ⟨_, rfl | rfl | rfl | rfl | rfl | rfl⟩ | ⟨_, rfl | rfl⟩ | ⟨_, rfl | rfl⟩ <;> decide
  · rw [is_two h]
    rcases hc with ⟨_, rfl⟩ | ⟨_, rfl⟩ | ⟨_, rfl | rfl | rfl | rfl | rfl | rfl⟩ | ⟨_, rfl | rfl⟩ | ⟨_, rfl | rfl⟩ <;> decide
  · rw [any_two h]
    match k, hk with
    | 0, _ => omega
    | 1, _ => rcases hc with ⟨_, rfl⟩ | ⟨rfl, rfl⟩ | ⟨rfl, rfl | rfl | rfl | rfl | rfl | rfl⟩ | ⟨rfl, rfl | rfl⟩ | ⟨rfl, rfl | rfl⟩ <;> first | decide | omega
    | 2, _ => rcases hc with ⟨_, rfl⟩ | ⟨_, rfl⟩ | ⟨rfl, rfl | rfl | rfl | rfl | rfl | rfl⟩ | ⟨rfl, rfl | rfl⟩ | ⟨rfl, rfl | rfl⟩ <;> first | decide | omega
    | 3, _ => rcases hc with ⟨_, rfl⟩ | ⟨_, rfl⟩ | ⟨_, rfl | rfl | rfl | rfl | rfl | rfl⟩ | ⟨rfl, rfl | rfl⟩ | ⟨rfl, rfl | rfl⟩ <;> first | decide | omega
    | 4, _ => rcases hc with ⟨_, rfl⟩ | ⟨_, rfl⟩ | ⟨_, rfl | rfl | rfl | rfl | rfl | rfl⟩ | ⟨_, rfl | rfl⟩ | ⟨rfl, rfl | rfl⟩ <;> first | decide | omega

/-- The part of the parser that is asked for a level: 0 the pick, 1 to 5 signs of two, 6 signs of one, 7 an index, 8 what needs no parentheses. -/
def pf (ts : List Tk) (L : Nat) (ex : Nat → Res Nd) (f a p : Nat) : Res Nd :=
  if a = 0 then exprO ts L ex f p else if a ≤ 6 then levO ts L ex f (6 - a) p
  else if a = 7 then (atomO ts L ex f p).bind fun x q => indexL ts L ex f x q else atomO ts L ex f p
theorem pf_8 (ex : Nat → Res Nd) (f p : Nat) : pf ts L ex f 8 p = atomO ts L ex f p := rfl
theorem pf_7 (ex : Nat → Res Nd) (f p : Nat) : pf ts L ex f 7 p = (atomO ts L ex f p).bind fun x q => indexL ts L ex f x q := rfl
theorem pf_6 (ex : Nat → Res Nd) (f p : Nat) : pf ts L ex f 6 p = unaryL ts L ex f f p := rfl
theorem pf_lev (ex : Nat → Res Nd) (f p : Nat) {a : Nat} (h1 : 1 ≤ a) (h2 : a ≤ 6) : pf ts L ex f a p = levO ts L ex f (6 - a) p := by
  unfold pf
  rw [if_neg (by omega), if_pos h2]
theorem pf_mid (ex : Nat → Res Nd) (f p : Nat) {a : Nat} (h1 : 1 ≤ a) (h2 : a ≤ 5) : pf ts L ex f a p = (pf ts L ex f (a + 1) p).bind fun x q => levelM ts L (levO ts L ex f (5 - a)) (a - 1) f x q := by
  rw [pf_lev ex f p h1 (by omega), pf_lev ex f p (by omega) (by omega)]
  have e : 6 - a = (5 - a) + 1 := by omega
  have e2 : 6 - (a + 1) = 5 - a := by omega
  have e3 : 4 - (5 - a) = a - 1 := by omega
  rw [e, e2]
  show levelO ts L (levO ts L ex f (5 - a)) (4 - (5 - a)) f p = _
  rw [e3]
  rfl
theorem pf_0 (ex : Nat → Res Nd) (f p : Nat) : pf ts L ex f 0 p = (pf ts L ex f 1 p).bind fun x q => if isT ts q [63] then (ex (q + 1)).bind fun y r => (takeP ts L [58] r).bind fun _ r' => (ex r').bind fun z e => .ok (.mk 15 [] [x, y, z] (placeT ts L q)) e else .ok x q := rfl
theorem exprP_pf (f p : Nat) : exprP ts L (f + 1) p = pf ts L (exprP ts L f) f 0 p := rfl
theorem unary_atom {ex : Nat → Res Nd} {F g p : Nat} (h1 : isT ts p [45] = false) (h2 : isT ts p [33] = false) : unaryL ts L ex F (g + 1) p = (atomO ts L ex F p).bind fun x q => indexL ts L ex F x q := by
  rw [unaryL, h1, h2]
  rfl
theorem index_end {ex : Nat → Res Nd} {g q : Nat} {x : Nd} (hg : 1 ≤ g) (h : isT ts q [91] = false) : indexL ts L ex g x q = .ok x q := by
  obtain ⟨g, rfl⟩ : ∃ m, g = m + 1 := ⟨g - 1, by omega⟩
  rw [indexL, h]
  rfl
theorem levelM_endP {tight : Nat → Res Nd} {k g q : Nat} {x : Nd} (hg : 1 ≤ g) (h : anyT ts q (signsK k) = false) : levelM ts L tight k g x q = .ok x q := by
  obtain ⟨g, rfl⟩ : ∃ m, g = m + 1 := ⟨g - 1, by omega⟩
  rw [levelM, h]
  rfl
theorem pf_step {ex : Nat → Res Nd} {f a p q : Nat} {x : Nd} (ha : a ≤ 7) (hf : 1 ≤ f) (h : pf ts L ex f (a + 1) p = .ok x q) (hm : a = 6 → isT ts p [45] = false ∧ isT ts p [33] = false) (hs : Stp ts q a) : pf ts L ex f a p = .ok x q := by
  by_cases h0 : a = 0
  · subst h0
    rw [pf_0, h]
    show (if isT ts q [63] = true then _ else _) = _
    rw [hs.2.2.2 rfl]
    rfl
  · by_cases h5 : a ≤ 5
    · rw [pf_mid ex f p (by omega) h5, h]
      exact levelM_endP hf (hs.2.2.1 (a - 1) (by omega) (by omega))
    · by_cases h6 : a = 6
      · subst h6
        obtain ⟨g, rfl⟩ : ∃ m, f = m + 1 := ⟨f - 1, by omega⟩
        rw [pf_6, unary_atom (hm rfl).1 (hm rfl).2, ← pf_7]
        exact h
      · obtain rfl : a = 7 := by omega
        rw [pf_7, ← pf_8, h]
        exact index_end hf (hs.2.1 (by omega))
theorem pf_down {ex : Nat → Res Nd} {f a p q : Nat} {x : Nd} (hf : 1 ≤ f) (hs : Stp ts q a) : ∀ (d : Nat), a + d ≤ 8 → pf ts L ex f (a + d) p = .ok x q → (a ≤ 6 → 7 ≤ a + d → isT ts p [45] = false ∧ isT ts p [33] = false) → pf ts L ex f a p = .ok x q
  | 0, _, h, _ => h
  | d + 1, hd, h, hm => pf_down hf hs d (by omega) (pf_step (by omega) hf h (fun e => hm (by omega) (by omega)) (hs.mono (by omega))) (fun h1 h2 => hm h1 (by omega))

/-- The first word of an expression. -/
def Fst (w : Wd) : Prop := w.1 ≠ 2 ∨ w.2 = [40] ∨ w.2 = [91] ∨ w.2 = [45] ∨ w.2 = [33]
def Fst8 (w : Wd) : Prop := w.1 ≠ 2 ∨ w.2 = [40] ∨ w.2 = [91]
theorem exW_eq (k : Int) (n : List UInt8) (l : List Nd) (p : Int) (a : Nat) : exW (.mk k n l p) a = parW (decide (tightR (.mk k n l p) < a)) (bodyW k n (exWs l (asksR k (tightR (.mk k n l p)) l.length)) (ex0Ws l) (grW l)) := by rw [exW]
/-- An expression's words without parentheses. -/
def exB (x : Nd) : List Wd := match x with | .mk k n l p => bodyW k n (exWs l (asksR k (tightR (.mk k n l p)) l.length)) (ex0Ws l) (grW l)
theorem exW_le {x : Nd} {a : Nat} (h : a ≤ tightR x) : exW x a = exB x := by
  obtain ⟨k, n, l, p⟩ := x
  rw [exW_eq, decide_eq_false (by omega)]
  rfl
theorem exW_gt {x : Nd} {a : Nat} (h : tightR x < a) : exW x a = (2, [40]) :: (exB x ++ [(2, [41])]) := by
  obtain ⟨k, n, l, p⟩ := x
  rw [exW_eq, decide_eq_true h]
  rfl
theorem exW_succ {x : Nd} {a : Nat} (h : tightR x ≠ a) : exW x a = exW x (a + 1) := by
  by_cases h1 : a ≤ tightR x
  · rw [exW_le h1, exW_le (by omega)]
  · rw [exW_gt (by omega), exW_gt (by omega)]
theorem exW_first : ∀ (N : Nat) (x : Nd), szN x < N → exR x = true → ∀ a, ∃ w r, exW x a = w :: r ∧ Fst w ∧ (7 ≤ tightR x ∨ tightR x < a → Fst8 w)
  | 0, _, h, _, _ => by omega
  | N + 1, x, hN, hx, a => by
    by_cases hp : tightR x < a
    · rw [exW_gt hp]
      exact ⟨_, _, rfl, .inr (.inl rfl), fun _ => .inr (.inl rfl)⟩
    · rw [exW_le (by omega)]
      cases exC_of hx with
      | num s p h => exact ⟨_, _, rfl, .inl (fun h => by cases h), fun _ => .inl (fun h => by cases h)⟩
      | name s p h => exact ⟨_, _, rfl, .inl (fun h => by cases h), fun _ => .inl (fun h => by cases h)⟩
      | list l p h => exact ⟨_, _, rfl, .inr (.inr (.inl rfl)), fun _ => .inr (.inr rfl)⟩
      | one s y p h hy =>
        refine ⟨(2, s), exW y 6, rfl, .inr (.inr (.inr h)), fun h2 => ?_⟩
        have : tightR (.mk 12 s [y] p) = 6 := rfl
        omega
      | two s y z p h hy hz =>
        have hlt : szN y < N := by simp only [szN, szL] at hN; omega
        obtain ⟨w, r, e, h1, _⟩ := exW_first N y hlt hy (if levelS s = 3 then 4 else levelS s)
        refine ⟨w, r ++ (2, s) :: exW z (levelS s + 1), ?_, h1, fun h2 => ?_⟩
        · show exW y (if levelS s = 3 then 4 else levelS s) ++ (2, s) :: exW z (levelS s + 1) = _
          rw [e]
          rfl
        · have e1 : tightR (.mk 12 s [y, z] p) = levelS s := rfl
          have := (level_mem (s := s) rfl h).1
          omega
      | apply s l q p h hl => exact ⟨_, _, rfl, .inl (fun h => by cases h), fun _ => .inl (fun h => by cases h)⟩
      | index y z p hy hz =>
        have hlt : szN y < N := by simp only [szN, szL] at hN; omega
        obtain ⟨w, r, e, h1, h2⟩ := exW_first N y hlt hy 7
        refine ⟨w, r ++ (2, [91]) :: (exW z 0 ++ [(2, [93])]), ?_, h1, fun _ => h2 (by omega)⟩
        show exW y 7 ++ (2, [91]) :: (exW z 0 ++ [(2, [93])]) = _
        rw [e]
        rfl
      | pick y z u p hy hz hu =>
        have hlt : szN y < N := by simp only [szN, szL] at hN; omega
        obtain ⟨w, r, e, h1, _⟩ := exW_first N y hlt hy 1
        refine ⟨w, r ++ (2, [63]) :: (exW z 0 ++ (2, [58]) :: exW u 0), ?_, h1, fun h2 => ?_⟩
        · show exW y 1 ++ (2, [63]) :: (exW z 0 ++ (2, [58]) :: exW u 0) = _
          rw [e]
          rfl
        · have e1 : tightR (.mk 15 [] [y, z, u] p) = 0 := rfl
          omega
theorem exW_at {x : Nd} (hx : exR x = true) {a p : Nat} (h : At ts p (exW x a)) : (∀ e, (e = [41] ∨ e = [93]) → isT ts p e = false) ∧ (7 ≤ tightR x ∨ tightR x < a → isT ts p [45] = false ∧ isT ts p [33] = false) ∧ 1 ≤ (exW x a).length := by
  obtain ⟨w, r, e, h1, h2⟩ := exW_first (szN x + 1) x (Nat.lt_succ_self _) hx a
  rw [e] at h ⊢
  have h0 := h.cons.1
  have two : w.1 = 2 → ∀ s', isT ts p s' = decide (w.2 = s') := fun e2 s' => is_two ⟨by rw [h0.1, e2], h0.2⟩ s'
  have none : w.1 ≠ 2 → ∀ s', resv s' = false → isT ts p s' = false := fun e2 s' hr => by
    unfold isT
    rw [h0.1, hr]
    simp
    intro _
    omega
  refine ⟨fun e he => ?_, fun h3 => ?_, by simp⟩
  · by_cases e2 : w.1 = 2
    · rw [two e2]
      rcases h1 with h1 | h1 | h1 | h1 | h1
      · exact absurd e2 h1
      all_goals (rw [h1]; rcases he with rfl | rfl <;> decide)
    · exact none e2 e (by rcases he with rfl | rfl <;> decide)
  · by_cases e2 : w.1 = 2
    · rw [two e2, two e2]
      rcases h2 h3 with h1 | h1 | h1
      · exact absurd e2 h1
      all_goals (rw [h1]; decide)
    · exact ⟨none e2 _ (by decide), none e2 _ (by decide)⟩

/-- What is parsed of a tree's words. -/
structure Good (ts : List Tk) (L : Nat) (x : Nd) : Prop where
  ex : ∀ f a p, a ≤ 8 → (exW x a).length + 1 ≤ f → At ts p (exW x a) → Stp ts (p + (exW x a).length) a → ∃ x', pf ts L (exprP ts L f) f a p = .ok x' (p + (exW x a).length) ∧ SN x x'
  un : ∀ f g p, (exW x 6).length + 1 ≤ f → (exW x 6).length + 1 ≤ g → At ts p (exW x 6) → Stp ts (p + (exW x 6).length) 6 → ∃ x', unaryL ts L (exprP ts L f) f g p = .ok x' (p + (exW x 6).length) ∧ SN x x'
  ch : ∀ f a p, 1 ≤ a → a ≤ 5 → a ≠ 3 → (exW x a).length + 1 ≤ f → At ts p (exW x a) → Stp ts (p + (exW x a).length) (a + 1) → ∃ g x', pf ts L (exprP ts L f) f a p = levelM ts L (levO ts L (exprP ts L f) f (5 - a)) (a - 1) g x' (p + (exW x a).length) ∧ SN x x' ∧ f ≤ g + (exW x a).length
  ix : ∀ f p, (exW x 7).length + 1 ≤ f → At ts p (exW x 7) → isT ts (p + (exW x 7).length) [40] = false → ∃ g x', pf ts L (exprP ts L f) f 7 p = indexL ts L (exprP ts L f) g x' (p + (exW x 7).length) ∧ SN x x' ∧ f ≤ g + (exW x 7).length
theorem Good.call {x : Nd} (h : Good ts L x) {f p : Nat} (hf : (exW x 0).length + 2 ≤ f) (ha : At ts p (exW x 0)) (hs : Stp ts (p + (exW x 0).length) 0) : ∃ x', exprP ts L f p = .ok x' (p + (exW x 0).length) ∧ SN x x' := by
  obtain ⟨g, rfl⟩ : ∃ g, f = g + 1 := ⟨f - 1, by omega⟩
  rw [exprP_pf]
  exact h.ex g 0 p (by decide) (by omega) ha hs

theorem row_in {l : List Nd} {y : Nd} (hy : y ∈ l) : (exW y 0).length ≤ (joinW (ex0Ws l)).length := by
  rw [ex0Ws_map]
  cases l with
  | nil => simp at hy
  | cons z l =>
    show _ ≤ (exW z 0 ++ (l.map fun x => exW x 0).flatMap (fun y => ((2 : Nat), ([44] : List UInt8)) :: y)).length
    rw [List.length_append]
    rcases List.mem_cons.1 hy with rfl | hy
    · omega
    · have : ∀ (l : List Nd), y ∈ l → (exW y 0).length ≤ ((l.map fun x => exW x 0).flatMap (fun y => ((2 : Nat), ([44] : List UInt8)) :: y)).length := by
        intro l
        induction l with
        | nil => intro h; simp at h
        | cons u l ih =>
          intro h
          simp only [List.map_cons, List.flatMap_cons, List.length_append, List.length_cons]
          rcases List.mem_cons.1 h with rfl | h
          · omega
          · have := ih h; omega
      have := this l hy
      omega
theorem flat_len (l : List Nd) : l.length ≤ ((l.map fun x => exW x 0).flatMap (fun y => ((2 : Nat), ([44] : List UInt8)) :: y)).length := by
  induction l with
  | nil => simp
  | cons z l ih =>
    simp only [List.map_cons, List.flatMap_cons, List.length_append, List.length_cons]
    omega
/-- A row of things up to a closing sign. -/
theorem rowM_at {one : Nat → Res Nd} {e : List UInt8} (he : e = [41] ∨ e = [93]) : ∀ (l : List Nd) (acc : List Nd) (q g : Nat), (∀ y ∈ l, ∀ p, At ts p (exW y 0) → Stp ts (p + (exW y 0).length) 0 → ∃ y', one p = .ok y' (p + (exW y 0).length) ∧ SN y y') →
    At ts q ((l.map fun x => exW x 0).flatMap (fun y => (2, [44]) :: y) ++ [(2, e)]) → l.length + 1 ≤ g → ∃ l', rowM ts L one g e acc q = .ok (acc ++ l') (q + ((l.map fun x => exW x 0).flatMap (fun y => ((2 : Nat), ([44] : List UInt8)) :: y)).length + 1) ∧ SL l l'
  | [], acc, q, g, _, ha, hg => by
    obtain ⟨g, rfl⟩ : ∃ m, g = m + 1 := ⟨g - 1, by omega⟩
    have h1 := ha.cons.1
    refine ⟨[], ?_, rfl⟩
    rw [rowM, is_two h1, if_pos (by simp), List.append_nil]
    rfl
  | y :: l, acc, q, g, h1, ha, hg => by
    obtain ⟨g, rfl⟩ : ∃ m, g = m + 1 := ⟨g - 1, by omega⟩
    have ha' : At ts q ((2, [44]) :: (exW y 0 ++ ((l.map fun x => exW x 0).flatMap (fun y => (2, [44]) :: y) ++ [(2, e)]))) := by
      rw [← List.append_assoc]
      exact ha
    obtain ⟨a1, a2⟩ := ha'.cons
    obtain ⟨a3, a4⟩ := a2.app
    have hst : Stp ts (q + 1 + (exW y 0).length) 0 := by
      cases l with
      | nil => exact Stp.sign a4.cons.1 (by rcases he with rfl | rfl <;> simp) 0
      | cons z l => exact Stp.sign (s := [44]) a4.cons.1 (by simp) 0
    obtain ⟨y', hy, hyy⟩ := h1 y (by simp) (q + 1) a3 hst
    obtain ⟨l', hl, hll⟩ := rowM_at he l (acc ++ [y']) (q + 1 + (exW y 0).length) g (fun z hz => h1 z (by simp [hz])) a4 (by simp at hg; omega)
    refine ⟨y' :: l', ?_, sameL_app (sameL_one hyy) hll⟩
    rw [rowM, is_two a1, if_neg (by rcases he with rfl | rfl <;> decide), take_two a1]
    show (one (q + 1)).bind (fun x r' => rowM ts L one g e (acc ++ [x]) r') = _
    rw [hy]
    show rowM ts L one g e (acc ++ [y']) (q + 1 + (exW y 0).length) = _
    rw [hl, List.append_assoc]
    congr 1
    simp
    omega
theorem rowG_at {one : Nat → Res Nd} {e : List UInt8} (he : e = [41] ∨ e = [93]) (l : List Nd) (hl : exsR l = true) (p g : Nat) (h1 : ∀ y ∈ l, ∀ p, At ts p (exW y 0) → Stp ts (p + (exW y 0).length) 0 → ∃ y', one p = .ok y' (p + (exW y 0).length) ∧ SN y y')
    (ha : At ts p (joinW (ex0Ws l) ++ [(2, e)])) (hg : (joinW (ex0Ws l)).length + 1 ≤ g) : ∃ l', rowG ts L one g e p = .ok l' (p + (joinW (ex0Ws l)).length + 1) ∧ SL l l' := by
  rw [ex0Ws_map] at ha hg ⊢
  cases l with
  | nil =>
    refine ⟨[], ?_, rfl⟩
    have h2 := ha.cons.1
    unfold rowG
    rw [is_two h2, if_pos (by simp)]
    rfl
  | cons y l =>
    have ha' : At ts p (exW y 0 ++ ((l.map fun x => exW x 0).flatMap (fun y => (2, [44]) :: y) ++ [(2, e)])) := by
      rw [← List.append_assoc]
      exact ha
    obtain ⟨a3, a4⟩ := ha'.app
    have hst : Stp ts (p + (exW y 0).length) 0 := by
      cases l with
      | nil => exact Stp.sign a4.cons.1 (by rcases he with rfl | rfl <;> simp) 0
      | cons z l => exact Stp.sign (s := [44]) a4.cons.1 (by simp) 0
    obtain ⟨y', hy, hyy⟩ := h1 y (by simp) p a3 hst
    have hlen := flat_len l
    have hg' : (exW y 0 ++ (l.map fun x => exW x 0).flatMap (fun y => ((2 : Nat), ([44] : List UInt8)) :: y)).length + 1 ≤ g := hg
    rw [List.length_append] at hg'
    obtain ⟨l', hl', hll⟩ := rowM_at (L := L) he l [y'] (p + (exW y 0).length) g (fun z hz => h1 z (by simp [hz])) a4 (by omega)
    refine ⟨y' :: l', ?_, sameL_app (sameL_one hyy) hll⟩
    unfold rowG
    rw [(exW_at (exsR_mem hl y (by simp)) a3).1 e he, if_neg (by simp), hy]
    show rowM ts L one g e [y'] (p + (exW y 0).length) = _
    rw [hl']
    congr 1
    show p + (exW y 0).length + _ + 1 = p + (exW y 0 ++ _).length + 1
    rw [List.length_append]
    omega
theorem levelS_leP (s : List UInt8) : levelS s ≤ 5 := by
  by_cases h0 : 0 < levelS s
  · exact (level_mem (s := s) rfl h0).1
  · omega
theorem tightR_le (x : Nd) : tightR x ≤ 8 := by
  obtain ⟨k, n, l, p⟩ := x
  have := levelS_leP n
  show (if k = 15 then 0 else if k = 12 then (if l.length = 2 then levelS n else 6) else if k = 14 then 7 else 8) ≤ 8
  repeat' split
  all_goals omega
/-- One whole expression, of which all parts are good. -/
theorem good_step {x : Nd} (hx : exR x = true) (ih : ∀ y, szN y < szN x → exR y = true → Good ts L y) : Good ts L x := by
  -- a chain of signs of its own level
  have chA : ∀ f a p, 1 ≤ a → a ≤ 5 → a ≠ 3 → tightR x = a → (exB x).length + 1 ≤ f → At ts p (exB x) → Stp ts (p + (exB x).length) (a + 1) → ∃ g x', pf ts L (exprP ts L f) f a p = levelM ts L (levO ts L (exprP ts L f) f (5 - a)) (a - 1) g x' (p + (exB x).length) ∧ SN x x' ∧ f ≤ g + (exB x).length := by
    intro f a p h1 h5 h3 ht hf ha hs
    cases exC_of hx with
    | num s p h => exact absurd ht (by show ¬ 8 = a; omega)
    | name s p h => exact absurd ht (by show ¬ 8 = a; omega)
    | list l p h => exact absurd ht (by show ¬ 8 = a; omega)
    | one s y p h hy => exact absurd ht (by show ¬ 6 = a; omega)
    | apply s l q p h hl => exact absurd ht (by show ¬ 8 = a; omega)
    | index y z p hy hz => exact absurd ht (by show ¬ 7 = a; omega)
    | pick y z u p hy hz hu => exact absurd ht (by show ¬ 0 = a; omega)
    | two s y z pos h hy hz =>
      have ht' : levelS s = a := ht
      have e : exB (.mk 12 s [y, z] pos) = exW y a ++ (2, s) :: exW z (a + 1) := by
        show exW y (if levelS s = 3 then 4 else levelS s) ++ (2, s) :: exW z (levelS s + 1) = _
        rw [ht', if_neg h3]
      rw [e] at hf ha hs ⊢
      obtain ⟨a1, a2⟩ := ha.app
      obtain ⟨a3, a4⟩ := a2.cons
      simp only [List.length_append, List.length_cons] at hf hs ⊢
      have gy := ih y (by simp only [szN, szL]; omega) hy
      have gz := ih z (by simp only [szN, szL]; omega) hz
      obtain ⟨g, y', e1, e2, e3⟩ := gy.ch f a p h1 h5 h3 (by omega) a1 (Stp.op a3 ht' h1)
      have hq : p + ((exW y a).length + ((exW z (a + 1)).length + 1)) = p + (exW y a).length + 1 + (exW z (a + 1)).length := by omega
      rw [hq] at hs ⊢
      obtain ⟨z', f1, f2⟩ := gz.ex f (a + 1) _ (by omega) (by omega) a4 hs
      obtain ⟨g, rfl⟩ : ∃ m, g = m + 1 := ⟨g - 1, by omega⟩
      refine ⟨g, .mk 12 s [y', z'] (placeT ts L (p + (exW y a).length)), ?_, sameN_mk (sameL_two e2 f2), by omega⟩
      rw [e1]
      conv => lhs; unfold levelM
      rw [any_two a3, if_pos (by simpa using (level_mem ht' h1).2), a3.2]
      rw [pf_lev _ _ _ (by omega) (by omega), show 6 - (a + 1) = 5 - a by omega] at f1
      rw [f1]
      show (if a - 1 = 2 then _ else _) = _
      rw [if_neg (by omega)]
  have ixA : ∀ f p, tightR x = 7 → (exB x).length + 1 ≤ f → At ts p (exB x) → ∃ g x', pf ts L (exprP ts L f) f 7 p = indexL ts L (exprP ts L f) g x' (p + (exB x).length) ∧ SN x x' ∧ f ≤ g + (exB x).length := by
    intro f p ht hf ha
    cases exC_of hx with
    | num s p h => exact absurd ht (by show ¬ 8 = 7; omega)
    | name s p h => exact absurd ht (by show ¬ 8 = 7; omega)
    | list l p h => exact absurd ht (by show ¬ 8 = 7; omega)
    | one s y p h hy => exact absurd ht (by show ¬ 6 = 7; omega)
    | apply s l q p h hl => exact absurd ht (by show ¬ 8 = 7; omega)
    | two s y z pos h hy hz =>
      have ht' : levelS s = 7 := ht
      have := (level_mem ht' (by decide)).1
      omega
    | pick y z u p hy hz hu => exact absurd ht (by show ¬ 0 = 7; omega)
    | index y z pos hy hz =>
      have e : exB (.mk 14 [] [y, z] pos) = exW y 7 ++ (2, [91]) :: (exW z 0 ++ [(2, [93])]) := rfl
      rw [e] at hf ha ⊢
      obtain ⟨a1, a2⟩ := ha.app
      obtain ⟨a3, a4⟩ := a2.cons
      obtain ⟨a5, a6⟩ := a4.app
      have a7 := a6.cons.1
      simp only [List.length_append, List.length_cons, List.length_nil] at hf ⊢
      have gy := ih y (by simp only [szN, szL]; omega) hy
      have gz := ih z (by simp only [szN, szL]; omega) hz
      obtain ⟨g, y', e1, e2, e3⟩ := gy.ix f p (by omega) a1 (by rw [is_two a3]; decide)
      obtain ⟨z', f1, f2⟩ := gz.call (f := f) (by omega) a5 (Stp.sign a7 (by simp) 0)
      obtain ⟨g, rfl⟩ : ∃ m, g = m + 1 := ⟨g - 1, by omega⟩
      refine ⟨g, .mk 14 [] [y', z'] (placeT ts L (p + (exW y 7).length)), ?_, sameN_mk (sameL_two e2 f2), by omega⟩
      rw [e1]
      conv => lhs; unfold indexL
      rw [is_two a3, if_pos (by simp), f1]
      show (takeP ts L [93] _).bind _ = _
      rw [take_two a7]
      show indexL _ _ _ _ _ _ = _
      congr 1
      omega
  have unA : ∀ f g p, tightR x = 6 → (exB x).length + 1 ≤ f → (exB x).length + 1 ≤ g → At ts p (exB x) → Stp ts (p + (exB x).length) 6 → ∃ x', unaryL ts L (exprP ts L f) f g p = .ok x' (p + (exB x).length) ∧ SN x x' := by
    intro f g p ht hf hg ha hs
    cases exC_of hx with
    | num s p h => exact absurd ht (by show ¬ 8 = 6; omega)
    | name s p h => exact absurd ht (by show ¬ 8 = 6; omega)
    | list l p h => exact absurd ht (by show ¬ 8 = 6; omega)
    | apply s l q p h hl => exact absurd ht (by show ¬ 8 = 6; omega)
    | two s y z pos h hy hz =>
      have ht' : levelS s = 6 := ht
      have := (level_mem ht' (by decide)).1
      omega
    | pick y z u p hy hz hu => exact absurd ht (by show ¬ 0 = 6; omega)
    | index y z pos hy hz => exact absurd ht (by show ¬ 7 = 6; omega)
    | one s y pos h hy =>
      have e : exB (.mk 12 s [y] pos) = (2, s) :: exW y 6 := rfl
      rw [e] at hf hg ha hs ⊢
      obtain ⟨a1, a2⟩ := ha.cons
      simp only [List.length_cons] at hf hg hs ⊢
      have gy := ih y (by simp only [szN, szL]; omega) hy
      obtain ⟨g, rfl⟩ : ∃ m, g = m + 1 := ⟨g - 1, by omega⟩
      have hq : p + ((exW y 6).length + 1) = p + 1 + (exW y 6).length := by omega
      rw [hq] at hs ⊢
      obtain ⟨y', e1, e2⟩ := gy.un f g (p + 1) (by omega) (by omega) a2 hs
      refine ⟨.mk 12 s [y'] (placeT ts L p), ?_, sameN_mk (sameL_one e2)⟩
      rw [unaryL, is_two a1, is_two a1, if_pos (by rcases h with rfl | rfl <;> decide), e1, a1.2]
      rfl
  -- without parentheses
  have exA : ∀ f p, (exB x).length + 1 ≤ f → At ts p (exB x) → Stp ts (p + (exB x).length) (tightR x) → ∃ x', pf ts L (exprP ts L f) f (tightR x) p = .ok x' (p + (exB x).length) ∧ SN x x' := by
    intro f p hf ha hs
    have chB : 1 ≤ tightR x → tightR x ≤ 5 → tightR x ≠ 3 → ∃ x', pf ts L (exprP ts L f) f (tightR x) p = .ok x' (p + (exB x).length) ∧ SN x x' := by
      intro h1 h5 h3
      obtain ⟨g, x', e1, e2, e3⟩ := chA f _ p h1 h5 h3 rfl hf ha (hs.mono (by omega))
      refine ⟨x', ?_, e2⟩
      rw [e1]
      exact levelM_endP (by omega) (hs.2.2.1 _ (by omega) (by omega))
    have h8 := hf
    cases exC_of hx with
    | num s pos h =>
      have a1 := ha.cons.1
      refine ⟨.mk 9 s [] (placeT ts L p), ?_, sameN_mk rfl⟩
      show atomO ts L _ f p = _
      unfold atomO
      rw [is_num a1.1, is_num a1.1, if_neg (by simp), if_neg (by simp), if_pos (by rw [a1.1]; rfl), a1.2]
      rfl
    | name s pos h =>
      have a1 := ha.cons.1
      have hr := (plain_word h).2.2.2.1
      refine ⟨.mk 10 s [] (placeT ts L p), ?_, sameN_mk rfl⟩
      show atomO ts L _ f p = _
      unfold atomO
      rw [is_plain a1 hr, is_plain a1 hr, if_neg (by simp), if_neg (by simp), if_neg (by rw [a1.1]; exact (by decide : ¬ ((0 : Nat) : Int) = 1)), named_plain a1 hr]
      show (if isT ts (p + 1) [40] = true then _ else _) = _
      have h40 : isT ts (p + 1) [40] = false := hs.1
      rw [h40]
      rfl
    | list l pos h =>
      have e : exB (.mk 11 [] l pos) = (2, [91]) :: (joinW (ex0Ws l) ++ [(2, [93])]) := rfl
      rw [e] at hf ha hs ⊢
      obtain ⟨a1, a2⟩ := ha.cons
      simp only [List.length_append, List.length_cons, List.length_nil] at hf ⊢
      have hin : ∀ y ∈ l, (exW y 0).length ≤ (joinW (ex0Ws l)).length := fun y hy => row_in hy
      obtain ⟨l', e1, e2⟩ := rowG_at (L := L) (e := [93]) (one := exprP ts L f) (.inr rfl) l h (p + 1) f (fun y hy q h1 h2 => (ih y (by have := szL_mem hy; simp only [szN]; omega) (exsR_mem h y hy)).call (by have := hin y hy; omega) h1 h2) a2 (by omega)
      refine ⟨.mk 11 [] l' (placeT ts L p), ?_, sameN_mk e2⟩
      show atomO ts L _ f p = _
      unfold atomO
      rw [is_two a1, is_two a1, if_neg (by decide), if_pos (by decide), e1]
      show Res.ok _ _ = _
      congr 1
      omega
    | one s y pos h hy =>
      exact unA f f p rfl hf hf ha hs
    | two s y z pos h hy hz =>
      by_cases h3 : levelS s = 3
      · have e : exB (.mk 12 s [y, z] pos) = exW y 4 ++ (2, s) :: exW z 4 := by
          show exW y (if levelS s = 3 then 4 else levelS s) ++ (2, s) :: exW z (levelS s + 1) = _
          rw [h3]
          rfl
        have et : tightR (.mk 12 s [y, z] pos) = 3 := h3
        rw [et] at hs ⊢
        rw [e] at hf ha hs ⊢
        obtain ⟨a1, a2⟩ := ha.app
        obtain ⟨a3, a4⟩ := a2.cons
        simp only [List.length_append, List.length_cons] at hf hs ⊢
        have gy := ih y (by simp only [szN, szL]; omega) hy
        have gz := ih z (by simp only [szN, szL]; omega) hz
        obtain ⟨y', e1, e2⟩ := gy.ex f 4 p (by omega) (by omega) a1 (Stp.op a3 h3 (by omega))
        have hq : p + ((exW y 4).length + ((exW z 4).length + 1)) = p + (exW y 4).length + 1 + (exW z 4).length := by omega
        rw [hq] at hs ⊢
        obtain ⟨z', f1, f2⟩ := gz.ex f 4 _ (by omega) (by omega) a4 (hs.mono (by omega))
        refine ⟨.mk 12 s [y', z'] (placeT ts L (p + (exW y 4).length)), ?_, sameN_mk (sameL_two e2 f2)⟩
        rw [pf_mid _ _ _ (by omega) (by omega), e1]
        show levelM ts L (levO ts L (exprP ts L f) f 2) 2 f y' _ = _
        obtain ⟨g, hg⟩ : ∃ m, f = m + 1 := ⟨f - 1, by omega⟩
        have f1' : levO ts L (exprP ts L f) f 2 (p + (exW y 4).length + 1) = .ok z' (p + (exW y 4).length + 1 + (exW z 4).length) := f1
        have hM : ∀ tight : Nat → Res Nd, tight (p + (exW y 4).length + 1) = .ok z' (p + (exW y 4).length + 1 + (exW z 4).length) → levelM ts L tight 2 f y' (p + (exW y 4).length) = .ok (.mk 12 s [y', z'] (placeT ts L (p + (exW y 4).length))) (p + (exW y 4).length + 1 + (exW z 4).length) := by
          intro tight ht
          rw [hg, levelM, any_two a3, if_pos (by simpa using (level_mem h3 (by omega)).2), a3.2, ht]
          rfl
        exact hM _ f1'
      · have hl := (level_mem (s := s) rfl h).1
        exact chB (by show 1 ≤ levelS s; omega) (by show levelS s ≤ 5; omega) h3
    | apply s l q pos h hl =>
      have e : exB (.mk 13 s [.mk 8 [] l q] pos) = (0, s) :: (2, [40]) :: (joinW (ex0Ws l) ++ [(2, [41])]) := rfl
      rw [e] at hf ha hs ⊢
      obtain ⟨a1, a2⟩ := ha.cons
      obtain ⟨a3, a4⟩ := a2.cons
      have hr := (plain_word h).2.2.2.1
      simp only [List.length_append, List.length_cons, List.length_nil] at hf ⊢
      have hin : ∀ y ∈ l, (exW y 0).length ≤ (joinW (ex0Ws l)).length := fun y hy => row_in hy
      obtain ⟨l', e1, e2⟩ := rowG_at (L := L) (e := [41]) (one := exprP ts L f) (.inl rfl) l hl (p + 1 + 1) f (fun y hy q h1 h2 => (ih y (by have := szL_mem hy; simp only [szN, szL]; omega) (exsR_mem hl y hy)).call (by have := hin y hy; omega) h1 h2) a4 (by omega)
      refine ⟨.mk 13 s [.mk 8 [] l' (placeT ts L (p + 1))] (placeT ts L p), ?_, sameN_mk (sameL_one (sameN_mk e2))⟩
      show atomO ts L _ f p = _
      unfold atomO
      rw [is_plain a1 hr, is_plain a1 hr, if_neg (by simp), if_neg (by simp), if_neg (by rw [a1.1]; exact (by decide : ¬ ((0 : Nat) : Int) = 1)), named_plain a1 hr]
      show (if isT ts (p + 1) [40] = true then _ else _) = _
      rw [is_two a3, if_pos (by decide)]
      unfold argsO
      rw [take_two a3]
      show ((rowG ts L (exprP ts L f) f [41] (p + 1 + 1)).bind _).bind _ = _
      rw [e1]
      show Res.ok _ _ = _
      congr 1
      omega
    | index y z pos hy hz =>
      obtain ⟨g, x', e1, e2, e3⟩ := ixA f p rfl hf ha
      refine ⟨x', ?_, e2⟩
      show pf ts L (exprP ts L f) f 7 p = _
      rw [e1]
      exact index_end (by omega) (hs.2.1 (by show 7 ≤ 7; omega))
    | pick y z u pos hy hz hu =>
      have e : exB (.mk 15 [] [y, z, u] pos) = exW y 1 ++ (2, [63]) :: (exW z 0 ++ (2, [58]) :: exW u 0) := rfl
      have et : tightR (.mk 15 [] [y, z, u] pos) = 0 := rfl
      rw [et] at hs ⊢
      rw [e] at hf ha hs ⊢
      obtain ⟨a1, a2⟩ := ha.app
      obtain ⟨a3, a4⟩ := a2.cons
      obtain ⟨a5, a6⟩ := a4.app
      obtain ⟨a7, a8⟩ := a6.cons
      simp only [List.length_append, List.length_cons] at hf hs ⊢
      have gy := ih y (by simp only [szN, szL]; omega) hy
      have gz := ih z (by simp only [szN, szL]; omega) hz
      have gu := ih u (by simp only [szN, szL]; omega) hu
      obtain ⟨y', e1, e2⟩ := gy.ex f 1 p (by omega) (by omega) a1 (Stp.ask a3)
      obtain ⟨z', f1, f2⟩ := gz.call (f := f) (by omega) a5 (Stp.sign a7 (by simp) 0)
      have hq : p + ((exW y 1).length + ((exW z 0).length + ((exW u 0).length + 1) + 1)) = p + (exW y 1).length + 1 + (exW z 0).length + 1 + (exW u 0).length := by omega
      rw [hq] at hs ⊢
      obtain ⟨u', g1, g2⟩ := gu.call (f := f) (by omega) a8 hs
      refine ⟨.mk 15 [] [y', z', u'] (placeT ts L (p + (exW y 1).length)), ?_, sameN_mk (sameL_three e2 f2 g2)⟩
      rw [pf_0, e1]
      show (if isT ts (p + (exW y 1).length) [63] = true then _ else _) = _
      rw [is_two a3, if_pos (by decide), f1]
      show (takeP ts L [58] _).bind _ = _
      rw [take_two a7]
      show (exprP ts L f _).bind _ = _
      rw [g1]
      rfl
  have ht8 := tightR_le x
  -- all levels up to its own
  have exL : ∀ f a p, a ≤ tightR x → (exB x).length + 1 ≤ f → At ts p (exB x) → Stp ts (p + (exB x).length) a → ∃ x', pf ts L (exprP ts L f) f a p = .ok x' (p + (exB x).length) ∧ SN x x' := by
    intro f a p hat hf ha hs
    obtain ⟨x', e1, e2⟩ := exA f p hf ha (hs.mono hat)
    refine ⟨x', ?_, e2⟩
    obtain ⟨d, hd⟩ : ∃ d, tightR x = a + d := ⟨tightR x - a, by omega⟩
    rw [hd] at e1
    refine pf_down (by omega) hs d (by omega) e1 fun h1 h2 => ?_
    have ha2 : At ts p (exW x (tightR x)) := by rw [exW_le (Nat.le_refl _)]; exact ha
    exact (exW_at hx ha2).2.1 (.inl (by omega))
  have ex8 : ∀ f p, (exB x).length + 3 ≤ f → At ts p ((2, [40]) :: (exB x ++ [(2, [41])])) → ∃ x', pf ts L (exprP ts L f) f 8 p = .ok x' (p + ((exB x).length + 2)) ∧ SN x x' := by
    intro f p hf ha
    obtain ⟨a1, a2⟩ := ha.cons
    obtain ⟨a3, a4⟩ := a2.app
    have a5 := a4.cons.1
    obtain ⟨g, rfl⟩ : ∃ g, f = g + 1 := ⟨f - 1, by omega⟩
    obtain ⟨x', e1, e2⟩ := exL g 0 (p + 1) (Nat.zero_le _) (by omega) a3 (Stp.sign a5 (by simp) 0)
    refine ⟨x', ?_, e2⟩
    rw [pf_8]
    unfold atomO
    rw [is_two a1, if_pos (by decide), exprP_pf, e1]
    show (takeP ts L [41] _).bind _ = _
    rw [take_two a5]
    show Res.ok _ _ = _
    congr 1
    omega
  have exF : ∀ f a p, a ≤ 8 → (exW x a).length + 1 ≤ f → At ts p (exW x a) → Stp ts (p + (exW x a).length) a → ∃ x', pf ts L (exprP ts L f) f a p = .ok x' (p + (exW x a).length) ∧ SN x x' := by
    intro f a p h8 hf ha hs
    by_cases hat : a ≤ tightR x
    · rw [exW_le hat] at hf ha hs ⊢
      exact exL f a p hat hf ha hs
    · have ha' := ha
      rw [exW_gt (by omega)] at hf ha hs ⊢
      simp only [List.length_append, List.length_cons, List.length_nil] at hf hs ⊢
      obtain ⟨x', e1, e2⟩ := ex8 f p (by omega) ha
      refine ⟨x', ?_, e2⟩
      obtain ⟨d, hd⟩ : ∃ d, 8 = a + d := ⟨8 - a, by omega⟩
      rw [hd] at e1
      have hq : p + ((exB x).length + 2) = p + ((exB x).length + (0 + 1) + 1) := by omega
      rw [hq] at e1
      exact pf_down (by omega) hs d (by omega) e1 fun _ _ => (exW_at hx ha').2.1 (.inr (by omega))
  refine ⟨exF, ?_, ?_, ?_⟩
  · intro f g p hf hg ha hs
    by_cases ht : tightR x = 6
    · rw [exW_le (by omega)] at hf hg ha hs ⊢
      exact unA f g p ht hf hg ha hs
    · -- the level above, or parentheses
      have e7 : exW x 6 = exW x 7 := exW_succ ht
      have h67 : 7 ≤ tightR x ∨ tightR x < 6 := by omega
      have hm := (exW_at hx ha).2.1 h67
      rw [e7] at hf hg ha hs ⊢
      obtain ⟨x', e1, e2⟩ := exF f 7 p (by omega) hf ha (hs.mono (by omega))
      refine ⟨x', ?_, e2⟩
      obtain ⟨g, rfl⟩ : ∃ m, g = m + 1 := ⟨g - 1, by omega⟩
      rw [unary_atom hm.1 hm.2, ← pf_7]
      exact e1
  · intro f a p h1 h5 h3 hf ha hs
    by_cases ht : tightR x = a
    · rw [exW_le (by omega)] at hf ha hs ⊢
      exact chA f a p h1 h5 h3 ht hf ha hs
    · rw [exW_succ ht] at hf ha hs ⊢
      obtain ⟨x', e1, e2⟩ := exF f (a + 1) p (by omega) hf ha hs
      refine ⟨f, x', ?_, e2, by omega⟩
      rw [pf_mid _ _ _ h1 h5, e1]
      rfl
  · intro f p hf ha hs
    by_cases ht : tightR x = 7
    · rw [exW_le (by omega)] at hf ha hs ⊢
      exact ixA f p ht hf ha
    · rw [exW_succ ht] at hf ha hs ⊢
      obtain ⟨x', e1, e2⟩ := exF f 8 p (by omega) hf ha ⟨hs, fun h => by omega, fun k hk h => by omega, fun h => by omega⟩
      refine ⟨f, x', ?_, e2, by omega⟩
      rw [pf_7, ← pf_8, e1]
      rfl
theorem good_all : ∀ (N : Nat) (x : Nd), szN x < N → exR x = true → Good ts L x
  | 0, _, h, _ => by omega
  | N + 1, x, hN, hx => good_step hx fun y hy hry => good_all N y (by omega) hry
theorem good (x : Nd) (hx : exR x = true) : Good ts L x := good_all (szN x + 1) x (Nat.lt_succ_self _) hx

/-! ### Statements -/
theorem args_at {l : List Nd} (hl : exsR l = true) {p F : Nat} (ha : At ts p ((2, [40]) :: (joinW (ex0Ws l) ++ [(2, [41])]))) (hF : (joinW (ex0Ws l)).length + 2 ≤ F) : ∃ l', argsO ts L (exprP ts L F) F p = .ok (.mk 8 [] l' (placeT ts L p)) (p + 1 + (joinW (ex0Ws l)).length + 1) ∧ SL l l' := by
  obtain ⟨a1, a2⟩ := ha.cons
  obtain ⟨l', e1, e2⟩ := rowG_at (L := L) (e := [41]) (one := exprP ts L F) (.inl rfl) l hl (p + 1) F (fun y hy q h1 h2 => (good y (exsR_mem hl y hy)).call (by have := row_in hy; omega) h1 h2) a2 (by omega)
  refine ⟨l', ?_, e2⟩
  unfold argsO
  rw [take_two a1]
  show (rowG ts L (exprP ts L F) F [41] (p + 1)).bind _ = _
  rw [e1]
  rfl
theorem params_at {l : List Nd} (hl : parsR l = true) {p F : Nat} (ha : At ts p ((2, [40]) :: (joinW (ex0Ws l) ++ [(2, [41])]))) (hF : (joinW (ex0Ws l)).length + 2 ≤ F) : ∃ l', paramsP ts L F p = .ok (.mk 4 [] l' (placeT ts L p)) (p + 1 + (joinW (ex0Ws l)).length + 1) ∧ SL l l' := by
  obtain ⟨a1, a2⟩ := ha.cons
  obtain ⟨l', e1, e2⟩ := rowG_at (L := L) (e := [41]) (one := nameN ts L) (.inl rfl) l (pars_exs hl) (p + 1) F (fun y hy q h1 h2 => by
    obtain ⟨hk, hx⟩ := parsR_mem hl y hy
    cases exC_of hx with
    | name s pos h =>
      have b1 := h1.cons.1
      refine ⟨.mk 10 s [] (placeT ts L q), ?_, sameN_mk rfl⟩
      unfold nameN
      rw [named_plain b1 (plain_word h).2.2.2.1]
      rfl
    | num s p h => cases hk
    | list l p h => cases hk
    | one s y p h hy => cases hk
    | apply s l q p h hl => cases hk
    | two s y z pos h hy hz => cases hk
    | pick y z u p hy hz hu => cases hk
    | index y z pos hy hz => cases hk) a2 (by omega)
  refine ⟨l', ?_, e2⟩
  unfold paramsP
  rw [take_two a1]
  show (rowG ts L (nameN ts L) F [41] (p + 1)).bind _ = _
  rw [e1]
  rfl
/-- A statement's words are parsed to it. -/
def GoodS (ts : List Tk) (L F : Nat) (f : Nat) (x : Nd) : Prop := ∀ p, At ts p (stW x) → isT ts (p + (stW x).length) wElse = false → ∃ x', stmtP ts L F f p = .ok x' (p + (stW x).length) ∧ SN x x'
theorem stW_first {x : Nd} (hx : stR x = true) : ∃ s r, stW x = (0, s) :: r ∧ s ≠ wElse := by
  have pl : ∀ {s : List UInt8}, plainR s = true → s ≠ wElse := fun h e => by
    have := (plain_word h).2.2.2.1
    rw [e] at this
    cases this
  cases stC_of hx with
  | set s y p h hy => exact ⟨s, _, rfl, pl h⟩
  | module s l q b t p h hl hb => exact ⟨wModule, _, rfl, by decide⟩
  | function s l q y p h hl hy => exact ⟨wFunction, _, rfl, by decide⟩
  | loop s y b t p h hy hb => exact ⟨wFor, _, rfl, by decide⟩
  | cond y b t p hy hb => exact ⟨wIf, _, rfl, by decide⟩
  | cond2 y b t b' t' p hy hb hb' => exact ⟨wIf, _, rfl, by decide⟩
  | call s l q p h hl => exact ⟨s, _, rfl, pl h⟩
  | callB s l q b t p h hl hb => exact ⟨s, _, rfl, pl h⟩
theorem else_first {x : Nd} (hx : stR x = true) {p : Nat} (h : At ts p (stW x)) : isT ts p wElse = false ∧ isT ts p [125] = false ∧ 1 ≤ (stW x).length := by
  obtain ⟨s, r, e, hs⟩ := stW_first hx
  rw [e] at h ⊢
  have h0 := h.cons.1
  refine ⟨?_, is_not2 h0 (by decide), by simp⟩
  unfold isT
  rw [h0.2]
  simp [hs]
theorem stsW_len : ∀ {l : List Nd}, stsR l = true → l.length ≤ (stsW l).length
  | [], _ => Nat.zero_le _
  | x :: l, h => by
    have h' : (stR x && stsR l) = true := h
    rw [Bool.and_eq_true] at h'
    have h1 := stsW_len h'.2
    obtain ⟨s, r, e, _⟩ := stW_first h'.1
    show (x :: l).length ≤ (stW x ++ stsW l).length
    rw [e]
    simp
    omega
theorem blockL_at {F f : Nat} : ∀ (l acc : List Nd) (q g : Nat), (∀ y ∈ l, GoodS ts L F f y) → stsR l = true → At ts q (stsW l ++ [(2, [125])]) → l.length + 1 ≤ g → ∃ l', blockL ts (stmtP ts L F f) g acc q = .ok (acc ++ l') (q + (stsW l).length + 1) ∧ SL l l'
  | [], acc, q, g, _, _, ha, hg => by
    obtain ⟨g, rfl⟩ : ∃ m, g = m + 1 := ⟨g - 1, by omega⟩
    refine ⟨[], ?_, rfl⟩
    rw [blockL, is_two ha.cons.1, if_pos (by simp), List.append_nil]
    rfl
  | x :: l, acc, q, g, h1, hs, ha, hg => by
    obtain ⟨g, rfl⟩ : ∃ m, g = m + 1 := ⟨g - 1, by omega⟩
    have hs' : (stR x && stsR l) = true := hs
    rw [Bool.and_eq_true] at hs'
    have ha' : At ts q (stW x ++ (stsW l ++ [(2, [125])])) := by
      rw [← List.append_assoc]
      exact ha
    obtain ⟨a1, a2⟩ := ha'.app
    have hst : isT ts (q + (stW x).length) wElse = false := by
      cases l with
      | nil => rw [is_two a2.cons.1]; decide
      | cons y l =>
        have hs2 : (stR y && stsR l) = true := hs'.2
        rw [Bool.and_eq_true] at hs2
        have a3 : At ts (q + (stW x).length) (stW y ++ (stsW l ++ [(2, [125])])) := by
          rw [← List.append_assoc]
          exact a2
        exact (else_first hs2.1 a3.app.1).1
    obtain ⟨x', e1, e2⟩ := h1 x (by simp) q a1 hst
    obtain ⟨l', f1, f2⟩ := blockL_at l (acc ++ [x']) (q + (stW x).length) g (fun y hy => h1 y (by simp [hy])) hs'.2 a2 (by simp at hg; omega)
    refine ⟨x' :: l', ?_, sameL_app (sameL_one e2) f2⟩
    rw [blockL, (else_first hs'.1 a1).2.1, if_neg (by simp), e1]
    show blockL ts (stmtP ts L F f) g (acc ++ [x']) (q + (stW x).length) = _
    rw [f1, List.append_assoc]
    congr 1
    show _ = q + (stW x ++ stsW l).length + 1
    rw [List.length_append]
    omega
theorem block_at {F f : Nat} {l : List Nd} (hs : stsR l = true) (h1 : ∀ y ∈ l, GoodS ts L F f y) {p : Nat} (ha : At ts p ((2, [123]) :: (stsW l ++ [(2, [125])]))) (hF : (stsW l).length + 1 ≤ F) : ∃ l', blockO ts L (stmtP ts L F f) F p = .ok (.mk 0 [] l' (placeT ts L p)) (p + 1 + (stsW l).length + 1) ∧ SL l l' := by
  obtain ⟨a1, a2⟩ := ha.cons
  have := stsW_len hs
  obtain ⟨l', e1, e2⟩ := blockL_at (L := L) l [] (p + 1) F h1 hs a2 (by omega)
  refine ⟨l', ?_, e2⟩
  unfold blockO
  rw [take_two a1]
  show (blockL ts (stmtP ts L F f) F [] (p + 1)).bind _ = _
  rw [e1]
  rfl
theorem stW_mem {l : List Nd} {y : Nd} (hy : y ∈ l) : (stW y).length ≤ (stsW l).length := by
  induction l with
  | nil => simp at hy
  | cons z l ih =>
    show _ ≤ (stW z ++ stsW l).length
    rw [List.length_append]
    rcases List.mem_cons.1 hy with rfl | hy
    · omega
    · have := ih hy; omega
theorem good_stmt {F : Nat} : ∀ (f : Nat) (x : Nd), stR x = true → (stW x).length + 1 ≤ f → (stW x).length + 3 ≤ F → GoodS ts L F f x
  | 0, _, _, h, _ => by omega
  | f + 1, x, hx, hf, hF => by
    intro p ha hst
    have hE : ∀ {y : Nd}, exR y = true → ∀ {q : Nat}, (exW y 0).length + 2 ≤ F → At ts q (exW y 0) → Stp ts (q + (exW y 0).length) 0 → ∃ y', exprP ts L F q = .ok y' (q + (exW y 0).length) ∧ SN y y' := fun hy _ h1 h2 h3 => (good _ hy).call h1 h2 h3
    have hB : ∀ {b : List Nd}, stsR b = true → ∀ {q : Nat}, (stsW b).length + 2 ≤ (stW x).length → At ts q ((2, [123]) :: (stsW b ++ [(2, [125])])) → ∃ l', blockO ts L (stmtP ts L F f) F q = .ok (.mk 0 [] l' (placeT ts L q)) (q + 1 + (stsW b).length + 1) ∧ SL b l' := fun {b} hb q h1 h2 =>
      block_at hb (fun y hy => good_stmt f y (stsR_mem hb y hy) (by have := stW_mem hy; omega) (by have := stW_mem hy; omega)) h2 (by omega)
    rw [stmtP]
    cases stC_of hx with
    | set s y pos h hy =>
      have e : stW (.mk 1 s [y] pos) = (0, s) :: (2, [61]) :: (exW y 0 ++ [(2, [59])]) := rfl
      rw [e] at hf hF ha hst ⊢
      have hr := (plain_word h).2.2.2.1
      obtain ⟨a1, a2⟩ := ha.cons
      obtain ⟨a3, a4⟩ := a2.cons
      obtain ⟨a5, a6⟩ := a4.app
      have a7 := a6.cons.1
      simp only [List.length_append, List.length_cons, List.length_nil] at hf hF ⊢
      obtain ⟨y', e1, e2⟩ := hE hy (q := p + 1 + 1) (by omega) a5 (Stp.sign a7 (by simp) 0)
      refine ⟨.mk 1 s [y'] (placeT ts L p), ?_, sameN_mk (sameL_one e2)⟩
      unfold stmtO
      rw [is_plain a1 hr, is_plain a1 hr, is_plain a1 hr, is_plain a1 hr, if_neg (by simp), if_neg (by simp), if_neg (by simp), if_neg (by simp), named_plain a1 hr]
      show (if isT ts (p + 1) [61] = true then _ else _) = _
      rw [is_two a3, if_pos (by decide), e1]
      show (takeP ts L [59] _).bind _ = _
      rw [take_two a7]
      show Res.ok _ _ = _
      congr 1
      omega
    | module s l q b t pos h hl hb =>
      have e : stW (.mk 2 s [.mk 4 [] l q, .mk 0 [] b t] pos) = (0, wModule) :: (0, s) :: (2, [40]) :: (joinW (ex0Ws l) ++ (2, [41]) :: (2, [123]) :: (stsW b ++ [(2, [125])])) := rfl
      rw [e] at hf hF ha hst hB ⊢
      have hr := (plain_word h).2.2.2.1
      obtain ⟨a1, a2⟩ := ha.cons
      obtain ⟨a3, a4⟩ := a2.cons
      have a4' : At ts (p + 1 + 1) (((2, [40]) :: (joinW (ex0Ws l) ++ [(2, [41])])) ++ ((2, [123]) :: (stsW b ++ [(2, [125])]))) := by simpa using a4
      obtain ⟨a5, a6⟩ := a4'.app
      simp only [List.length_append, List.length_cons, List.length_nil] at hf hF hB a6 ⊢
      obtain ⟨l', e1, e2⟩ := params_at (L := L) hl (F := F) a5 (by omega)
      obtain ⟨b', f1, f2⟩ := hB hb (q := p + 1 + 1 + 1 + (joinW (ex0Ws l)).length + 1) (by omega) (by rw [show p + 1 + 1 + 1 + (joinW (ex0Ws l)).length + 1 = p + 1 + 1 + ((joinW (ex0Ws l)).length + (0 + 1) + 1) by omega]; exact a6)
      refine ⟨.mk 2 s [.mk 4 [] l' (placeT ts L (p + 1 + 1)), .mk 0 [] b' (placeT ts L (p + 1 + 1 + 1 + (joinW (ex0Ws l)).length + 1))] (placeT ts L p), ?_, sameN_mk (sameL_two (sameN_mk e2) (sameN_mk f2))⟩
      unfold stmtO
      rw [is_kw a1 (by decide), if_pos (by decide), named_plain a3 hr]
      show (paramsP ts L F (p + 1 + 1)).bind _ = _
      rw [e1]
      show (blockO ts L (stmtP ts L F f) F _).bind _ = _
      rw [f1]
      show Res.ok _ _ = _
      congr 1
      omega
    | function s l q y pos h hl hy =>
      have e : stW (.mk 3 s [.mk 4 [] l q, y] pos) = (0, wFunction) :: (0, s) :: (2, [40]) :: (joinW (ex0Ws l) ++ (2, [41]) :: (2, [61]) :: (exW y 0 ++ [(2, [59])])) := rfl
      rw [e] at hf hF ha hst ⊢
      have hr := (plain_word h).2.2.2.1
      obtain ⟨a1, a2⟩ := ha.cons
      obtain ⟨a3, a4⟩ := a2.cons
      have a4' : At ts (p + 1 + 1) (((2, [40]) :: (joinW (ex0Ws l) ++ [(2, [41])])) ++ ((2, [61]) :: (exW y 0 ++ [(2, [59])]))) := by simpa using a4
      obtain ⟨a5, a6⟩ := a4'.app
      obtain ⟨a7, a8⟩ := a6.cons
      obtain ⟨a9, b1⟩ := a8.app
      have b2 := b1.cons.1
      simp only [List.length_append, List.length_cons, List.length_nil] at hf hF a7 a9 b2 ⊢
      obtain ⟨l', e1, e2⟩ := params_at (L := L) hl (F := F) a5 (by omega)
      have hq : p + 1 + 1 + ((joinW (ex0Ws l)).length + (0 + 1) + 1) = p + 1 + 1 + 1 + (joinW (ex0Ws l)).length + 1 := by omega
      rw [hq] at a7 a9 b2
      obtain ⟨y', f1, f2⟩ := hE hy (by omega) a9 (Stp.sign b2 (by simp) 0)
      refine ⟨.mk 3 s [.mk 4 [] l' (placeT ts L (p + 1 + 1)), y'] (placeT ts L p), ?_, sameN_mk (sameL_two (sameN_mk e2) f2)⟩
      unfold stmtO
      rw [is_kw a1 (by decide), is_kw a1 (by decide), if_neg (by decide), if_pos (by decide), named_plain a3 hr]
      show (paramsP ts L F (p + 1 + 1)).bind _ = _
      rw [e1]
      show (takeP ts L [61] _).bind _ = _
      rw [take_two a7]
      show (exprP ts L F _).bind _ = _
      rw [f1]
      show (takeP ts L [59] _).bind _ = _
      rw [take_two b2]
      show Res.ok _ _ = _
      congr 1
      omega
    | loop s y b t pos h hy hb =>
      have e : stW (.mk 5 s [y, .mk 0 [] b t] pos) = (0, wFor) :: (2, [40]) :: (0, s) :: (2, [61]) :: (exW y 0 ++ (2, [41]) :: (2, [123]) :: (stsW b ++ [(2, [125])])) := by
        rw [← blkW_at y b t []]
        rfl
      rw [e] at hf hF ha hst hB ⊢
      have hr := (plain_word h).2.2.2.1
      obtain ⟨a1, a2⟩ := ha.cons
      obtain ⟨a3, a4⟩ := a2.cons
      obtain ⟨a5, a6⟩ := a4.cons
      obtain ⟨a7, a8⟩ := a6.cons
      obtain ⟨a9, b1⟩ := a8.app
      obtain ⟨b2, b3⟩ := b1.cons
      simp only [List.length_append, List.length_cons, List.length_nil] at hf hF hB ⊢
      obtain ⟨y', e1, e2⟩ := hE hy (by omega) a9 (Stp.sign b2 (by simp) 0)
      obtain ⟨b', f1, f2⟩ := hB hb (by omega) b3
      refine ⟨.mk 5 s [y', .mk 0 [] b' (placeT ts L (p + 1 + 1 + 1 + 1 + (exW y 0).length + 1))] (placeT ts L p), ?_, sameN_mk (sameL_two e2 (sameN_mk f2))⟩
      unfold stmtO
      rw [is_kw a1 (by decide), is_kw a1 (by decide), is_kw a1 (by decide), if_neg (by decide), if_neg (by decide), if_pos (by decide), take_two a3]
      show (nameP ts (p + 1 + 1)).bind _ = _
      rw [named_plain a5 hr]
      show (takeP ts L [61] _).bind _ = _
      rw [take_two a7]
      show (exprP ts L F _).bind _ = _
      rw [e1]
      show (takeP ts L [41] _).bind _ = _
      rw [take_two b2]
      show (blockO ts L (stmtP ts L F f) F _).bind _ = _
      rw [f1]
      show Res.ok _ _ = _
      congr 1
      omega
    | cond y b t pos hy hb =>
      have e : stW (.mk 6 [] [y, .mk 0 [] b t] pos) = (0, wIf) :: (2, [40]) :: (exW y 0 ++ (2, [41]) :: (2, [123]) :: (stsW b ++ [(2, [125])])) := by
        show (0, wIf) :: (2, [40]) :: (exW y 0 ++ (2, [41]) :: ((blksW [y, .mk 0 [] b t])[1]?.getD [] ++ [])) = _
        rw [List.append_nil, blkW_at y]
      rw [e] at hf hF ha hst hB ⊢
      obtain ⟨a1, a2⟩ := ha.cons
      obtain ⟨a3, a4⟩ := a2.cons
      obtain ⟨a9, b1⟩ := a4.app
      obtain ⟨b2, b3⟩ := b1.cons
      simp only [List.length_append, List.length_cons, List.length_nil] at hf hF hB hst ⊢
      obtain ⟨y', e1, e2⟩ := hE hy (by omega) a9 (Stp.sign b2 (by simp) 0)
      obtain ⟨b', f1, f2⟩ := hB hb (by omega) b3
      refine ⟨.mk 6 [] [y', .mk 0 [] b' (placeT ts L (p + 1 + 1 + (exW y 0).length + 1))] (placeT ts L p), ?_, sameN_mk (sameL_two e2 (sameN_mk f2))⟩
      unfold stmtO
      rw [is_kw a1 (by decide), is_kw a1 (by decide), is_kw a1 (by decide), is_kw a1 (by decide), if_neg (by decide), if_neg (by decide), if_neg (by decide), if_pos (by decide), take_two a3]
      show (exprP ts L F _).bind _ = _
      rw [e1]
      show (takeP ts L [41] _).bind _ = _
      rw [take_two b2]
      show (blockO ts L (stmtP ts L F f) F _).bind _ = _
      rw [f1]
      show (if isT ts _ wElse = true then _ else _) = _
      rw [show p + ((exW y 0).length + ((stsW b).length + (0 + 1) + 1 + 1) + 1 + 1) = p + 1 + 1 + (exW y 0).length + 1 + 1 + (stsW b).length + 1 by omega] at hst ⊢
      rw [hst]
      rfl
    | cond2 y b t b2 t2 pos hy hb hb2 =>
      have e : stW (.mk 6 [] [y, .mk 0 [] b t, .mk 0 [] b2 t2] pos) = (0, wIf) :: (2, [40]) :: (exW y 0 ++ (2, [41]) :: (((2, [123]) :: (stsW b ++ [(2, [125])])) ++ (0, wElse) :: (2, [123]) :: (stsW b2 ++ [(2, [125])]))) := by
        rw [← blkW_at y b t [.mk 0 [] b2 t2], ← blkW_at2 y b t b2 t2 []]
        rfl
      rw [e] at hf hF ha hst hB ⊢
      obtain ⟨a1, a2⟩ := ha.cons
      obtain ⟨a3, a4⟩ := a2.cons
      obtain ⟨a9, b1⟩ := a4.app
      obtain ⟨c2, b3⟩ := b1.cons
      obtain ⟨b4, b5⟩ := b3.app
      obtain ⟨b6, b7⟩ := b5.cons
      simp only [List.length_append, List.length_cons, List.length_nil] at hf hF hB b6 b7 ⊢
      obtain ⟨y', e1, e2⟩ := hE hy (by omega) a9 (Stp.sign c2 (by simp) 0)
      obtain ⟨b', f1, f2⟩ := hB hb (by omega) b4
      rw [show p + 1 + 1 + (exW y 0).length + 1 + ((stsW b).length + (0 + 1) + 1) = p + 1 + 1 + (exW y 0).length + 1 + 1 + (stsW b).length + 1 by omega] at b6 b7
      obtain ⟨b'', g1, g2⟩ := hB hb2 (by omega) b7
      refine ⟨.mk 6 [] [y', .mk 0 [] b' (placeT ts L (p + 1 + 1 + (exW y 0).length + 1)), .mk 0 [] b'' (placeT ts L (p + 1 + 1 + (exW y 0).length + 1 + 1 + (stsW b).length + 1 + 1))] (placeT ts L p), ?_, sameN_mk (sameL_three e2 (sameN_mk f2) (sameN_mk g2))⟩
      unfold stmtO
      rw [is_kw a1 (by decide), is_kw a1 (by decide), is_kw a1 (by decide), is_kw a1 (by decide), if_neg (by decide), if_neg (by decide), if_neg (by decide), if_pos (by decide), take_two a3]
      show (exprP ts L F _).bind _ = _
      rw [e1]
      show (takeP ts L [41] _).bind _ = _
      rw [take_two c2]
      show (blockO ts L (stmtP ts L F f) F _).bind _ = _
      rw [f1]
      show (if isT ts _ wElse = true then _ else _) = _
      rw [is_kw b6 (by decide), if_pos (by decide), g1]
      show Res.ok _ _ = _
      congr 1
      omega
    | call s l q pos h hl =>
      have e : stW (.mk 7 s [.mk 8 [] l q] pos) = (0, s) :: (2, [40]) :: (joinW (ex0Ws l) ++ (2, [41]) :: [(2, [59])]) := rfl
      rw [e] at hf hF ha hst ⊢
      have hr := (plain_word h).2.2.2.1
      obtain ⟨a1, a2⟩ := ha.cons
      have a2' : At ts (p + 1) (((2, [40]) :: (joinW (ex0Ws l) ++ [(2, [41])])) ++ [(2, [59])]) := by simpa using a2
      obtain ⟨a3, a4⟩ := a2'.app
      have a5 := a4.cons.1
      have a6 := a3.cons.1
      simp only [List.length_append, List.length_cons, List.length_nil] at hf hF a5 ⊢
      obtain ⟨l', e1, e2⟩ := args_at (L := L) hl (F := F) a3 (by omega)
      refine ⟨.mk 7 s [.mk 8 [] l' (placeT ts L (p + 1))] (placeT ts L p), ?_, sameN_mk (sameL_one (sameN_mk e2))⟩
      rw [show p + 1 + ((joinW (ex0Ws l)).length + (0 + 1) + 1) = p + 1 + 1 + (joinW (ex0Ws l)).length + 1 by omega] at a5
      unfold stmtO
      rw [is_plain a1 hr, is_plain a1 hr, is_plain a1 hr, is_plain a1 hr, if_neg (by simp), if_neg (by simp), if_neg (by simp), if_neg (by simp), named_plain a1 hr]
      show (if isT ts (p + 1) [61] = true then _ else _) = _
      rw [is_two a6, if_neg (by decide), e1]
      show (if isT ts _ [123] = true then _ else _) = _
      rw [is_two a5, if_neg (by decide), take_two a5]
      show Res.ok _ _ = _
      congr 1
      omega
    | callB s l q b t pos h hl hb =>
      have e : stW (.mk 7 s [.mk 8 [] l q, .mk 0 [] b t] pos) = (0, s) :: (2, [40]) :: (joinW (ex0Ws l) ++ (2, [41]) :: (2, [123]) :: (stsW b ++ [(2, [125])])) := rfl
      rw [e] at hf hF ha hst hB ⊢
      have hr := (plain_word h).2.2.2.1
      obtain ⟨a1, a2⟩ := ha.cons
      have a2' : At ts (p + 1) (((2, [40]) :: (joinW (ex0Ws l) ++ [(2, [41])])) ++ ((2, [123]) :: (stsW b ++ [(2, [125])]))) := by simpa using a2
      obtain ⟨a3, a4⟩ := a2'.app
      have a5 := a4.cons.1
      have a6 := a3.cons.1
      simp only [List.length_append, List.length_cons, List.length_nil] at hf hF hB a5 a4 ⊢
      obtain ⟨l', e1, e2⟩ := args_at (L := L) hl (F := F) a3 (by omega)
      rw [show p + 1 + ((joinW (ex0Ws l)).length + (0 + 1) + 1) = p + 1 + 1 + (joinW (ex0Ws l)).length + 1 by omega] at a5 a4
      obtain ⟨b', f1, f2⟩ := hB hb (by omega) a4
      refine ⟨.mk 7 s [.mk 8 [] l' (placeT ts L (p + 1)), .mk 0 [] b' (placeT ts L (p + 1 + 1 + (joinW (ex0Ws l)).length + 1))] (placeT ts L p), ?_, sameN_mk (sameL_two (sameN_mk e2) (sameN_mk f2))⟩
      unfold stmtO
      rw [is_plain a1 hr, is_plain a1 hr, is_plain a1 hr, is_plain a1 hr, if_neg (by simp), if_neg (by simp), if_neg (by simp), if_neg (by simp), named_plain a1 hr]
      show (if isT ts (p + 1) [61] = true then _ else _) = _
      rw [is_two a6, if_neg (by decide), e1]
      show (if isT ts _ [123] = true then _ else _) = _
      rw [is_two a5, if_pos (by decide), f1]
      show Res.ok _ _ = _
      congr 1
      omega
/-- A text's tokens are parsed to the tree whose words they are. -/
theorem stmts_at {F : Nat} : ∀ (l acc : List Nd) (q f : Nat), stsR l = true → At ts q (stsW l) → ts.length = q + (stsW l).length → (stsW l).length + 3 ≤ F → l.length + 1 ≤ f → ∃ l', stmtsP ts L F f acc q = .ok (acc ++ l') ts.length ∧ SL l l'
  | [], acc, q, f, _, _, hl, _, hf => by
    obtain ⟨f, rfl⟩ : ∃ m, f = m + 1 := ⟨f - 1, by omega⟩
    have hl' : ts.length = q := hl
    refine ⟨[], ?_, rfl⟩
    rw [stmtsP, if_pos (by omega), List.append_nil, hl']
  | x :: l, acc, q, f, hs, ha, hl, hF, hf => by
    obtain ⟨f, rfl⟩ : ∃ m, f = m + 1 := ⟨f - 1, by omega⟩
    have hs' : (stR x && stsR l) = true := hs
    rw [Bool.and_eq_true] at hs'
    have ha' : At ts q (stW x ++ stsW l) := ha
    obtain ⟨a1, a2⟩ := ha'.app
    have hl' : ts.length = q + (stW x ++ stsW l).length := hl
    have hF' : (stW x ++ stsW l).length + 3 ≤ F := hF
    rw [List.length_append] at hl' hF'
    obtain ⟨h1, _, h2⟩ := else_first hs'.1 a1
    have hst : isT ts (q + (stW x).length) wElse = false := by
      cases l with
      | nil =>
        have : (stsW ([] : List Nd)).length = 0 := rfl
        rw [show q + (stW x).length = ts.length by omega]
        exact not_is_end _
      | cons y l =>
        have hs2 : (stR y && stsR l) = true := hs'.2
        rw [Bool.and_eq_true] at hs2
        have a3 : At ts (q + (stW x).length) (stW y ++ stsW l) := a2
        exact (else_first hs2.1 a3.app.1).1
    obtain ⟨x', e1, e2⟩ := good_stmt (F := F) F x hs'.1 (by omega) (by omega) q a1 hst
    obtain ⟨l', f1, f2⟩ := stmts_at (F := F) l (acc ++ [x']) (q + (stW x).length) f hs'.2 a2 (by omega) (by omega) (by simp at hf; omega)
    refine ⟨x' :: l', ?_, sameL_app (sameL_one e2) f2⟩
    rw [stmtsP, if_neg (by omega), e1]
    show stmtsP ts L F f (acc ++ [x']) (q + (stW x).length) = _
    rw [f1, List.append_assoc]
    rfl
end
end Go.Proofs.YtpbkeamjdolpgaaGreatDoor
