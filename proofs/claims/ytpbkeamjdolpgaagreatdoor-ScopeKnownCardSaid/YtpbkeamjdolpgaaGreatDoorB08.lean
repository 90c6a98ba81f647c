/- Plain: the tokens of a text that is put together of words and blanks. Plain: the words of a tree, and that they are the words of its text. -/
import Derived.Test.YtpbkeamjdolpgaaGreatDoorB07
import Derived.Test.YtpbkeamjdolpgaaGreatDoorB02
namespace Go.Proofs.YtpbkeamjdolpgaaGreatDoor
open Go.RowKit Go.Lib

abbrev Wd := Nat × List UInt8
def kt (t : Tk) : Wd := (t.1, t.2.1)
/-- The words of a text, unless they are too many. -/
def Sc (l : List UInt8) (ws : List Wd) : Prop := ∀ f n p, n ≤ 4096 → l.length ≤ f → (∃ ts, scanL f n p l = .ok ts ∧ ts.map kt = ws) ∨ (4096 < n + ws.length ∧ ∃ e, scanL f n p l = .error e)
theorem Sc.nil : Sc [] [] := by
  intro f n p _ _
  refine .inl ⟨[], ?_, rfl⟩
  unfold scanL
  cases f <;> simp [toksL]
theorem Sc.blank {c : UInt8} {l : List UInt8} {ws : List Wd} (hc : isBl c = true) (h : Sc l ws) : Sc (c :: l) ws := by
  intro f n p hn hf
  have e : scanL f n p (c :: l) = scanL f n (p + 1) l := by
    unfold scanL
    have h1 : skipL (c :: l) = skipL l + 1 := by
      unfold skipL
      rw [skip_cons, if_pos hc, Nat.add_comm]
    rw [h1, List.drop_succ_cons, Nat.add_assoc, Nat.add_comm 1]
  rw [e]
  exact h f n (p + 1) hn (by simp at hf; omega)
theorem Sc.blanks {ws : List Wd} {l : List UInt8} (h : Sc l ws) : ∀ {b : List UInt8}, b.all isBl = true → Sc (b ++ l) ws
  | [], _ => h
  | c :: b, hb => by
    rw [List.all_cons, Bool.and_eq_true] at hb
    exact Sc.blank hb.1 (Sc.blanks h hb.2)
theorem Sc.tok {w r : List UInt8} {k : Nat} {ws : List Wd} (hw : wordL (w ++ r) = (k, w.length)) (hne : w ≠ []) (hs : skipL (w ++ r) = 0) (h : Sc r ws) : Sc (w ++ r) ((k, w) :: ws) := by
  intro f n p hn hf
  have hlen := List.length_pos_iff.2 hne
  rw [List.length_append] at hf
  obtain ⟨g, rfl⟩ : ∃ g, f = g + 1 := ⟨f - 1, by omega⟩
  unfold scanL
  rw [hs, List.drop_zero, toksL_step _ _ _ _ (by simp [hne]), hw]
  dsimp only
  rw [if_neg (by omega), List.drop_left, List.take_left, Nat.add_zero]
  by_cases h1 : n = 4096
  · rw [if_pos h1]
    exact .inr ⟨by simp; omega, _, rfl⟩
  · rw [if_neg h1]
    have e : (w ++ r).drop (w.length + skipL r) = r.drop (skipL r) := by rw [← List.drop_drop, List.drop_left]
    rw [e]
    rcases h g (n + 1) (p + w.length) (by omega) (by omega) with ⟨ts, h2, h3⟩ | ⟨h2, e, h3⟩
    · unfold scanL at h2
      rw [h2]
      exact .inl ⟨_, rfl, by simp [kt, h3]⟩
    · unfold scanL at h3
      rw [h3]
      exact .inr ⟨by simp; omega, _, rfl⟩
/-- A whole text's words. -/
theorem Sc.tokens {l : List UInt8} {ws : List Wd} (h : Sc l ws) {ts : List Tk} (ht : tokensL l = .ok ts) : ts.map kt = ws := by
  unfold tokensL at ht
  by_cases hb : 65536 < l.length
  · rw [if_pos hb] at ht; cases ht
  · rw [if_neg hb] at ht
    have e : scanL l.length 0 0 l = toksL l.length 0 (skipL l) (l.drop (skipL l)) := by unfold scanL; rw [Nat.zero_add]
    rcases h l.length 0 0 (by omega) (Nat.le_refl _) with ⟨ts', h2, h3⟩ | ⟨_, e', h3⟩
    · rw [e, ht] at h2
      cases h2
      exact h3
    · rw [e, ht] at h3
      cases h3
theorem Sc.all {l : List UInt8} {ws : List Wd} (h : Sc l ws) (hl : l.length ≤ 65536) (hw : ws.length ≤ 4096) : ∃ ts, tokensL l = .ok ts ∧ ts.map kt = ws := by
  unfold tokensL
  rw [if_neg (by omega)]
  have e : scanL l.length 0 0 l = toksL l.length 0 (skipL l) (l.drop (skipL l)) := by unfold scanL; rw [Nat.zero_add]
  rw [← e]
  rcases h l.length 0 0 (by omega) (Nat.le_refl _) with h2 | ⟨h2, _⟩
  · exact h2
  · omega

/-! ### What ends a word -/
def enC (c : UInt8) : Bool := isBl c || c == 40 || c == 41 || c == 44 || c == 59 || c == 91 || c == 93
def En (l : List UInt8) : Prop := ∀ c, l.head? = some c → enC c = true
theorem en_cases {c : UInt8} (h : enC c = true) : c = 32 ∨ c = 9 ∨ c = 10 ∨ c = 13 ∨ c = 40 ∨ c = 41 ∨ c = 44 ∨ c = 59 ∨ c = 91 ∨ c = 93 := by
  unfold enC isBl at h
  simpa [or_assoc] using h
theorem en_small {c : UInt8} (h : enC c = true) : c.toNat < 128 := by
  rcases en_cases h with rfl | rfl | rfl | rfl | rfl | rfl | rfl | rfl | rfl | rfl <;> decide
theorem en_name {c : UInt8} (h : enC c = true) (j : Nat) : isNm j c.toNat = false := by
  have h1 : (c.toNat == 95) = false ∧ Lib.isLetterU (c.toNat : Int) = false ∧ Lib.isDigitU (c.toNat : Int) = false := by
    rcases en_cases h with rfl | rfl | rfl | rfl | rfl | rfl | rfl | rfl | rfl | rfl <;> exact ⟨by decide, by kernel_rfl, by kernel_rfl⟩
  obtain ⟨a, b, d⟩ := h1
  unfold isNm
  rw [a, b, d]
  simp
theorem en_db {c : UInt8} (h : enC c = true) : isDb c = false := by
  rcases en_cases h with rfl | rfl | rfl | rfl | rfl | rfl | rfl | rfl | rfl | rfl <;> decide
theorem en_dot {c : UInt8} (h : enC c = true) : ¬ c = 46 := by
  rcases en_cases h with rfl | rfl | rfl | rfl | rfl | rfl | rfl | rfl | rfl | rfl <;> decide
theorem en_slash {c : UInt8} (h : enC c = true) : c ≠ 47 := by
  rcases en_cases h with rfl | rfl | rfl | rfl | rfl | rfl | rfl | rfl | rfl | rfl <;> decide
theorem en_signs {c : UInt8} (h : enC c = true) : ∀ t ∈ signs, t.length ≤ 2 ∧ t[1]? ≠ some c := by
  rcases en_cases h with rfl | rfl | rfl | rfl | rfl | rfl | rfl | rfl | rfl | rfl <;> decide
theorem nameL_en (l : List UInt8) (c : UInt8) (r : List UInt8) (hc : enC c = true) : nameL (l ++ c :: r) = nameL l := by
  unfold nameL
  rw [runL_app isNm c r (en_small hc) (en_name hc) _ _ _ (by simp only [List.length_append, List.length_cons]; omega)]
  exact runL_fuel _ _ _ _ _ (by simp only [List.length_append, List.length_cons]; omega) (Nat.le_refl _)
theorem digs_en (c : UInt8) (r : List UInt8) (hc : enC c = true) : ∀ l : List UInt8, digs (l ++ c :: r) = digs l
  | [] => by unfold digs; simp [en_db hc]
  | a :: l => by
    have ih := digs_en c r hc l
    unfold digs at ih ⊢
    rw [List.cons_append, List.takeWhile_cons, List.takeWhile_cons]
    cases isDb a
    · rfl
    · simp only [if_true, List.length_cons]
      rw [ih]
theorem numL_en (l : List UInt8) (c : UInt8) (r : List UInt8) (hc : enC c = true) : numL (l ++ c :: r) = numL l := by
  have h1 := digs_le l
  unfold numL
  rw [digs_en c r hc, List.drop_append_of_le_length h1]
  by_cases h0 : digs l = 0
  · rw [if_pos h0, if_pos h0]
  · rw [if_neg h0, if_neg h0]
    cases hd : l.drop (digs l) with
    | nil =>
      have hn : ¬ (([] : List UInt8) ++ c :: r).head? = some 46 := by
        simp
        exact en_dot hc
      rw [if_neg (fun h => hn h.1), if_neg (fun h => by cases h.1)]
    | cons x y =>
      have hlen : digs l + 1 ≤ l.length := by
        have := congrArg List.length hd
        rw [List.length_drop] at this
        simp at this
        omega
      rw [List.drop_append_of_le_length hlen, digs_en c r hc]
      rfl
theorem wordL_en (l : List UInt8) (r : List UInt8) (hl : l ≠ []) (hr : En r) : wordL (l ++ r) = wordL l := by
  cases r with
  | nil => rw [List.append_nil]
  | cons c r =>
    have hc := hr c rfl
    unfold wordL signL
    rw [nameL_en l c r hc, numL_en l c r hc, signIn_app l c r hl signs (en_signs hc)]
theorem skip_en (l r : List UInt8) (hl : l ≠ []) (hr : En r) (h : skipL l = 0) : skipL (l ++ r) = 0 := by
  cases r with
  | nil => rw [List.append_nil]; exact h
  | cons c r => exact skip_app0 c r l (en_slash (hr c rfl)) hl h
/-- A word that stands by itself, and something behind it that does not go on with it. -/
theorem Sc.word {w r : List UInt8} {k : Nat} {ws : List Wd} (hw : wordL w = (k, w.length)) (hne : w ≠ []) (hs : skipL w = 0) (hr : En r) (h : Sc r ws) : Sc (w ++ r) ((k, w) :: ws) :=
  Sc.tok (by rw [wordL_en w r hne hr, hw]) hne (skip_en w r hne hr hs) h
theorem skip_first (c : UInt8) (r : List UInt8) (h1 : isBl c = false) (h2 : c ≠ 47) : skipL (c :: r) = 0 := by
  unfold skipL
  rw [skip_zero]
  exact ⟨h1, fun h => h2 h.1⟩
/-- Signs of one byte that no byte behind them goes on with. -/
def soloC (c : UInt8) : Bool := c == 40 || c == 41 || c == 91 || c == 93 || c == 44 || c == 59 || c == 123 || c == 125 || c == 45
theorem solo_cases {c : UInt8} (h : soloC c = true) : c = 40 ∨ c = 41 ∨ c = 91 ∨ c = 93 ∨ c = 44 ∨ c = 59 ∨ c = 123 ∨ c = 125 ∨ c = 45 := by
  unfold soloC at h
  simpa [or_assoc] using h
theorem nameL_no (c : UInt8) (r : List UInt8) (h1 : c.toNat < 128) (h2 : isNm 0 c.toNat = false) : nameL (c :: r) = 0 := (nameL_first (c :: r) h1 (by simp)).2 h2
theorem numL_no (c : UInt8) (r : List UInt8) (h : isDb c = false) : numL (c :: r) = 0 := by
  unfold numL
  rw [if_pos]
  unfold digs
  rw [List.takeWhile_cons, h]
  rfl
theorem word_solo (c : UInt8) (r : List UInt8) (h : soloC c = true) : wordL (c :: r) = (2, 1) := by
  have h1 : c.toNat < 128 ∧ isNm 0 c.toNat = false ∧ isDb c = false := by
    rcases solo_cases h with rfl | rfl | rfl | rfl | rfl | rfl | rfl | rfl | rfl <;> exact ⟨by decide, by kernel_rfl, by decide⟩
  have h2 : signL (c :: r) = 1 := by
    unfold signL signs
    rcases solo_cases h with rfl | rfl | rfl | rfl | rfl | rfl | rfl | rfl | rfl <;> simp [signIn, Lib.hasPrefix, List.isPrefixOf]
  unfold wordL
  rw [nameL_no c r h1.1 h1.2.1, numL_no c r h1.2.2, h2]
  rfl
theorem Sc.solo {c : UInt8} {r : List UInt8} {ws : List Wd} (hc : soloC c = true) (h : Sc r ws) : Sc (c :: r) ((2, [c]) :: ws) := by
  refine Sc.tok (w := [c]) (word_solo c r hc) (by simp) (skip_first c r ?_ ?_) h
  · rcases solo_cases hc with rfl | rfl | rfl | rfl | rfl | rfl | rfl | rfl | rfl <;> decide
  · rcases solo_cases hc with rfl | rfl | rfl | rfl | rfl | rfl | rfl | rfl | rfl <;> decide
theorem word_not (r : List UInt8) (h : r.head? ≠ some 61) : wordL (33 :: r) = (2, 1) := by
  have h2 : signL (33 :: r) = 1 := by
    unfold signL signs
    cases r with
    | nil => decide
    | cons d r =>
      have hd : ¬ d = 61 := fun e => h (by simp [e])
      have hd' : ¬ 61 = d := fun e => hd e.symm
      simp [signIn, Lib.hasPrefix, List.isPrefixOf, hd']
  unfold wordL
  rw [nameL_no 33 r (by decide) (by kernel_rfl), numL_no 33 r (by decide), h2]
  rfl
theorem Sc.not {r : List UInt8} {ws : List Wd} (hr : r.head? ≠ some 61) (h : Sc r ws) : Sc (33 :: r) ((2, [33]) :: ws) :=
  Sc.tok (w := [33]) (word_not r hr) (by simp) (skip_first 33 r (by decide) (by decide)) h
/-- A name's first byte. -/
theorem name_first {s : List UInt8} (h : 0 < nameL s) : ∃ c r, s = c :: r ∧ isBl c = false ∧ c ≠ 47 ∧ c ≠ 61 := by
  cases s with
  | nil => simp [nameL, runL] at h
  | cons c r =>
    refine ⟨c, r, rfl, ?_⟩
    by_cases hc : c.toNat < 128
    · have h1 : isNm 0 c.toNat = true := by
        cases hN : isNm 0 c.toNat
        · rw [nameL_no c r hc hN] at h
          omega
        · rfl
      refine ⟨?_, ?_, ?_⟩
      · cases hb : isBl c
        · rfl
        · rw [bl_name hb] at h1
          cases h1
      · rintro rfl
        exact absurd h1 (by rw [show isNm 0 (47 : UInt8).toNat = false by kernel_rfl]; decide)
      · rintro rfl
        exact absurd h1 (by rw [show isNm 0 (61 : UInt8).toNat = false by kernel_rfl]; decide)
    · refine ⟨?_, ?_, ?_⟩
      · cases hb : isBl c
        · rfl
        · exact absurd (bl_small hb) hc
      · rintro rfl
        exact absurd (by decide) hc
      · rintro rfl
        exact absurd (by decide) hc
theorem name_word {s : List UInt8} (h : 0 < nameL s) (h2 : nameL s = s.length) : wordL s = (0, s.length) ∧ s ≠ [] ∧ skipL s = 0 := by
  obtain ⟨c, r, rfl, h3, h4, _⟩ := name_first h
  refine ⟨?_, by simp, skip_first c r h3 h4⟩
  unfold wordL
  rw [if_pos h, h2]
end Go.Proofs.YtpbkeamjdolpgaaGreatDoor
namespace Go.Proofs.YtpbkeamjdolpgaaGreatDoor
open Go.RowKit Go.Lib

/-! ### The words of a tree -/
def parW (b : Bool) (ws : List Wd) : List Wd := if b then (2, [40]) :: (ws ++ [(2, [41])]) else ws
def joinW : List (List Wd) → List Wd
  | [] => []
  | x :: r => x ++ r.flatMap fun y => (2, [44]) :: y
def bodyW (kind : Int) (name : List UInt8) (below row grand : List (List Wd)) : List Wd :=
  if kind = 11 then (2, [91]) :: (joinW row ++ [(2, [93])])
  else if kind = 13 then (0, name) :: (2, [40]) :: (joinW grand ++ [(2, [41])])
  else if kind = 15 ∨ kind = 12 ∨ kind = 14 then (match below with
    | [a, b, c] => a ++ (2, [63]) :: (b ++ (2, [58]) :: c)
    | [a] => (2, name) :: a
    | [a, b] => if kind = 14 then a ++ (2, [91]) :: (b ++ [(2, [93])]) else a ++ (2, name) :: b
    | _ => [])
  else if kind = 9 then [(1, name)] else [(0, name)]
mutual
def exW : Nd → Nat → List Wd
  | .mk kind name kids pos, asked =>
    parW (decide (tightR (.mk kind name kids pos) < asked)) (bodyW kind name (exWs kids (asksR kind (tightR (.mk kind name kids pos)) kids.length)) (ex0Ws kids) (grW kids))
def exWs : List Nd → List Nat → List (List Wd)
  | x :: r, a :: q => exW x a :: exWs r q
  | _, _ => []
def ex0Ws : List Nd → List (List Wd)
  | [] => []
  | x :: r => exW x 0 :: ex0Ws r
def grW : List Nd → List (List Wd)
  | [] => []
  | (.mk _ _ kids _) :: _ => ex0Ws kids
end
def ex0WAt (l : List Nd) (i : Nat) : List Wd := (ex0Ws l)[i]?.getD []
def rowW (l : List Nd) : List Wd := joinW (grW l)
mutual
def stW : Nd → List Wd
  | .mk kind name kids _ =>
    if kind = 1 then (0, name) :: (2, [61]) :: (ex0WAt kids 0 ++ [(2, [59])])
    else if kind = 2 then (0, wModule) :: (0, name) :: (2, [40]) :: (rowW kids ++ (2, [41]) :: (blksW kids)[1]?.getD [])
    else if kind = 3 then (0, wFunction) :: (0, name) :: (2, [40]) :: (rowW kids ++ (2, [41]) :: (2, [61]) :: (ex0WAt kids 1 ++ [(2, [59])]))
    else if kind = 5 then (0, wFor) :: (2, [40]) :: (0, name) :: (2, [61]) :: (ex0WAt kids 0 ++ (2, [41]) :: (blksW kids)[1]?.getD [])
    else if kind = 6 then (0, wIf) :: (2, [40]) :: (ex0WAt kids 0 ++ (2, [41]) :: ((blksW kids)[1]?.getD [] ++ (if kids.length = 3 then (0, wElse) :: (blksW kids)[2]?.getD [] else [])))
    else (0, name) :: (2, [40]) :: (rowW kids ++ (2, [41]) :: (if kids.length = 2 then (blksW kids)[1]?.getD [] else [(2, [59])]))
def blksW : List Nd → List (List Wd)
  | [] => []
  | (.mk _ _ kids _) :: r => ((2, [123]) :: (stsW kids ++ [(2, [125])])) :: blksW r
def stsW : List Nd → List Wd
  | [] => []
  | x :: r => stW x ++ stsW r
end

/-! ### Right trees, case by case -/
theorem len_two {l : List Nd} (h : l.length = 2) : ∃ x y, l = [x, y] := by
  match l, h with
  | [x, y], _ => exact ⟨x, y, rfl⟩
theorem len_three {l : List Nd} (h : l.length = 3) : ∃ x y z, l = [x, y, z] := by
  match l, h with
  | [x, y, z], _ => exact ⟨x, y, z, rfl⟩
theorem exsR_mem : ∀ {l : List Nd}, exsR l = true → ∀ x ∈ l, exR x = true
  | [], _, x, hx => by simp at hx
  | y :: r, h, x, hx => by
    have h' : (exR y && exsR r) = true := h
    rw [Bool.and_eq_true] at h'
    rcases List.mem_cons.1 hx with rfl | hx
    · exact h'.1
    · exact exsR_mem h'.2 x hx
theorem stsR_mem : ∀ {l : List Nd}, stsR l = true → ∀ x ∈ l, stR x = true
  | [], _, x, hx => by simp at hx
  | y :: r, h, x, hx => by
    have h' : (stR y && stsR r) = true := h
    rw [Bool.and_eq_true] at h'
    rcases List.mem_cons.1 hx with rfl | hx
    · exact h'.1
    · exact stsR_mem h'.2 x hx
theorem parsR_mem : ∀ {l : List Nd}, parsR l = true → ∀ x ∈ l, x.kind = 10 ∧ exR x = true
  | [], _, x, hx => by simp at hx
  | y :: r, h, x, hx => by
    have h' : ((decide (y.kind = 10) && exR y) && parsR r) = true := h
    simp only [Bool.and_eq_true, decide_eq_true_eq] at h'
    rcases List.mem_cons.1 hx with rfl | hx
    · exact h'.1
    · exact parsR_mem h'.2 x hx
theorem exsR_of : ∀ {l : List Nd}, (∀ x ∈ l, exR x = true) → exsR l = true
  | [], _ => rfl
  | y :: r, h => by
    show (exR y && exsR r) = true
    rw [h y (by simp), exsR_of fun x hx => h x (by simp [hx])]
    rfl
theorem stsR_of : ∀ {l : List Nd}, (∀ x ∈ l, stR x = true) → stsR l = true
  | [], _ => rfl
  | y :: r, h => by
    show (stR y && stsR r) = true
    rw [h y (by simp), stsR_of fun x hx => h x (by simp [hx])]
    rfl
theorem shR_one {w : Int} {l : List Nd} (h : shR [w] l = true) : ∃ x, l = [x] ∧ (if w < 0 then exR x else decide (x.kind = w) && partR x) = true := by
  match l, h with
  | [], h => cases h
  | [x], h =>
    have h' : ((if w < 0 then exR x else decide (x.kind = w) && partR x) && shR [] []) = true := h
    rw [Bool.and_eq_true] at h'
    exact ⟨x, rfl, h'.1⟩
  | x :: y :: r, h =>
    have h' : ((if w < 0 then exR x else decide (x.kind = w) && partR x) && false) = true := h
    rw [Bool.and_false] at h'
    cases h'
theorem shR_two {w v : Int} {l : List Nd} (h : shR [w, v] l = true) : ∃ x y, l = [x, y] ∧ (if w < 0 then exR x else decide (x.kind = w) && partR x) = true ∧ (if v < 0 then exR y else decide (y.kind = v) && partR y) = true := by
  match l, h with
  | [], h => cases h
  | x :: r, h =>
    have h' : ((if w < 0 then exR x else decide (x.kind = w) && partR x) && shR [v] r) = true := h
    rw [Bool.and_eq_true] at h'
    obtain ⟨y, rfl, hy⟩ := shR_one h'.2
    exact ⟨x, y, rfl, h'.1, hy⟩
theorem shR_three {w v u : Int} {l : List Nd} (h : shR [w, v, u] l = true) : ∃ x y z, l = [x, y, z] ∧ (if w < 0 then exR x else decide (x.kind = w) && partR x) = true ∧ (if v < 0 then exR y else decide (y.kind = v) && partR y) = true ∧ (if u < 0 then exR z else decide (z.kind = u) && partR z) = true := by
  match l, h with
  | [], h => cases h
  | x :: r, h =>
    have h' : ((if w < 0 then exR x else decide (x.kind = w) && partR x) && shR [v, u] r) = true := h
    rw [Bool.and_eq_true] at h'
    obtain ⟨y, z, rfl, hy⟩ := shR_two h'.2
    exact ⟨x, y, z, rfl, h'.1, hy⟩
/-- A block, parameters, arguments. -/
theorem part_cases {x : Nd} {w : Int} (h : (decide (x.kind = w) && partR x) = true) : ∃ l p, x = .mk w [] l p ∧ (if w = 0 then stsR l else if w = 4 then parsR l else exsR l) = true := by
  obtain ⟨k, n, l, p⟩ := x
  rw [Bool.and_eq_true, decide_eq_true_eq] at h
  obtain ⟨rfl, h2⟩ := h
  have h3 : (n.isEmpty && (if k = 0 then stsR l else if k = 4 then parsR l else exsR l)) = true := h2
  rw [Bool.and_eq_true] at h3
  obtain ⟨h4, h5⟩ := h3
  have : n = [] := by simpa using h4
  subst this
  exact ⟨l, p, rfl, h5⟩
inductive ExC : Nd → Prop where
  | num (s p) : numR s = true → ExC (.mk 9 s [] p)
  | name (s p) : plainR s = true → ExC (.mk 10 s [] p)
  | list (l p) : exsR l = true → ExC (.mk 11 [] l p)
  | one (s x p) : s = [45] ∨ s = [33] → exR x = true → ExC (.mk 12 s [x] p)
  | two (s x y p) : 0 < levelS s → exR x = true → exR y = true → ExC (.mk 12 s [x, y] p)
  | apply (s l q p) : plainR s = true → exsR l = true → ExC (.mk 13 s [.mk 8 [] l q] p)
  | index (x y p) : exR x = true → exR y = true → ExC (.mk 14 [] [x, y] p)
  | pick (x y z p) : exR x = true → exR y = true → exR z = true → ExC (.mk 15 [] [x, y, z] p)
theorem exR_eq (kind : Int) (name : List UInt8) (kids : List Nd) (pos : Int) : exR (.mk kind name kids pos) =
    if kind = 9 then numR name && kids.isEmpty
    else if kind = 10 then plainR name && kids.isEmpty
    else if kind = 11 then name.isEmpty && exsR kids
    else if kind = 12 then (if kids.length = 1 then (decide (name = [45]) || decide (name = [33])) && exsR kids else decide (0 < levelS name) && decide (kids.length = 2) && exsR kids)
    else if kind = 13 then plainR name && shR [8] kids
    else if kind = 14 then name.isEmpty && decide (kids.length = 2) && exsR kids
    else if kind = 15 then name.isEmpty && decide (kids.length = 3) && exsR kids
    else false := by rw [exR]
theorem exC_of {x : Nd} (h : exR x = true) : ExC x := by
  obtain ⟨k, n, l, p⟩ := x
  rw [exR_eq] at h
  by_cases h9 : k = 9
  · rw [if_pos h9] at h
    simp only [Bool.and_eq_true, List.isEmpty_iff] at h
    obtain ⟨h1, rfl⟩ := h
    subst h9
    exact .num n p h1
  rw [if_neg h9] at h
  by_cases h10 : k = 10
  · rw [if_pos h10] at h
    simp only [Bool.and_eq_true, List.isEmpty_iff] at h
    obtain ⟨h1, rfl⟩ := h
    subst h10
    exact .name n p h1
  rw [if_neg h10] at h
  by_cases h11 : k = 11
  · rw [if_pos h11] at h
    simp only [Bool.and_eq_true, List.isEmpty_iff] at h
    obtain ⟨rfl, h1⟩ := h
    subst h11
    exact .list l p h1
  rw [if_neg h11] at h
  by_cases h12 : k = 12
  · rw [if_pos h12] at h
    subst h12
    by_cases hl : l.length = 1
    · rw [if_pos hl] at h
      obtain ⟨x, rfl⟩ := List.length_eq_one_iff.1 hl
      simp only [Bool.and_eq_true, Bool.or_eq_true, decide_eq_true_eq] at h
      exact .one n x p h.1 (exsR_mem h.2 x (by simp))
    · rw [if_neg hl] at h
      simp only [Bool.and_eq_true, decide_eq_true_eq] at h
      obtain ⟨⟨h1, h2⟩, h3⟩ := h
      obtain ⟨x, y, rfl⟩ := len_two h2
      exact .two n x y p h1 (exsR_mem h3 x (by simp)) (exsR_mem h3 y (by simp))
  rw [if_neg h12] at h
  by_cases h13 : k = 13
  · rw [if_pos h13] at h
    subst h13
    rw [Bool.and_eq_true] at h
    obtain ⟨x, rfl, hx⟩ := shR_one h.2
    rw [if_neg (by decide)] at hx
    obtain ⟨l, q, rfl, hl⟩ := part_cases hx
    exact .apply n l q p h.1 hl
  rw [if_neg h13] at h
  by_cases h14 : k = 14
  · rw [if_pos h14] at h
    subst h14
    simp only [Bool.and_eq_true, decide_eq_true_eq, List.isEmpty_iff] at h
    obtain ⟨⟨rfl, h2⟩, h3⟩ := h
    obtain ⟨x, y, rfl⟩ := len_two h2
    exact .index x y p (exsR_mem h3 x (by simp)) (exsR_mem h3 y (by simp))
  rw [if_neg h14] at h
  by_cases h15 : k = 15
  · rw [if_pos h15] at h
    subst h15
    simp only [Bool.and_eq_true, decide_eq_true_eq, List.isEmpty_iff] at h
    obtain ⟨⟨rfl, h2⟩, h3⟩ := h
    obtain ⟨x, y, z, rfl⟩ := len_three h2
    exact .pick x y z p (exsR_mem h3 x (by simp)) (exsR_mem h3 y (by simp)) (exsR_mem h3 z (by simp))
  rw [if_neg h15] at h
  cases h
inductive StC : Nd → Prop where
  | set (s x p) : plainR s = true → exR x = true → StC (.mk 1 s [x] p)
  | module (s l q b r p) : plainR s = true → parsR l = true → stsR b = true → StC (.mk 2 s [.mk 4 [] l q, .mk 0 [] b r] p)
  | function (s l q x p) : plainR s = true → parsR l = true → exR x = true → StC (.mk 3 s [.mk 4 [] l q, x] p)
  | loop (s x b r p) : plainR s = true → exR x = true → stsR b = true → StC (.mk 5 s [x, .mk 0 [] b r] p)
  | cond (x b r p) : exR x = true → stsR b = true → StC (.mk 6 [] [x, .mk 0 [] b r] p)
  | cond2 (x b r b' r' p) : exR x = true → stsR b = true → stsR b' = true → StC (.mk 6 [] [x, .mk 0 [] b r, .mk 0 [] b' r'] p)
  | call (s l q p) : plainR s = true → exsR l = true → StC (.mk 7 s [.mk 8 [] l q] p)
  | callB (s l q b r p) : plainR s = true → exsR l = true → stsR b = true → StC (.mk 7 s [.mk 8 [] l q, .mk 0 [] b r] p)
theorem stR_eq (kind : Int) (name : List UInt8) (kids : List Nd) (pos : Int) : stR (.mk kind name kids pos) =
    if kind = 6 then name.isEmpty && shR (if kids.length = 2 then [-1, 0] else [-1, 0, 0]) kids
    else plainR name &&
      if kind = 1 then shR [-1] kids
      else if kind = 2 then shR [4, 0] kids
      else if kind = 3 then shR [4, -1] kids
      else if kind = 5 then shR [-1, 0] kids
      else if kind = 7 then shR (if kids.length = 1 then [8] else [8, 0]) kids
      else false := by rw [stR]
theorem stC_of {x : Nd} (h : stR x = true) : StC x := by
  obtain ⟨k, n, l, p⟩ := x
  rw [stR_eq] at h
  by_cases h6 : k = 6
  · rw [if_pos h6, Bool.and_eq_true, List.isEmpty_iff] at h
    obtain ⟨rfl, h⟩ := h
    subst h6
    by_cases hl : l.length = 2
    · rw [if_pos hl] at h
      obtain ⟨x, y, rfl, hx, hy⟩ := shR_two h
      rw [if_pos (by decide)] at hx
      rw [if_neg (by decide)] at hy
      obtain ⟨b, r, rfl, hb⟩ := part_cases hy
      exact .cond x b r p hx hb
    · rw [if_neg hl] at h
      obtain ⟨x, y, z, rfl, hx, hy, hz⟩ := shR_three h
      rw [if_pos (by decide)] at hx
      rw [if_neg (by decide)] at hy hz
      obtain ⟨b, r, rfl, hb⟩ := part_cases hy
      obtain ⟨b', r', rfl, hb'⟩ := part_cases hz
      exact .cond2 x b r b' r' p hx hb hb'
  rw [if_neg h6, Bool.and_eq_true] at h
  obtain ⟨hn, h⟩ := h
  by_cases h1 : k = 1
  · rw [if_pos h1] at h
    subst h1
    obtain ⟨x, rfl, hx⟩ := shR_one h
    rw [if_pos (by decide)] at hx
    exact .set n x p hn hx
  rw [if_neg h1] at h
  by_cases h2 : k = 2
  · rw [if_pos h2] at h
    subst h2
    obtain ⟨x, y, rfl, hx, hy⟩ := shR_two h
    rw [if_neg (by decide)] at hx hy
    obtain ⟨l, q, rfl, hl⟩ := part_cases hx
    obtain ⟨b, r, rfl, hb⟩ := part_cases hy
    exact .module n l q b r p hn hl hb
  rw [if_neg h2] at h
  by_cases h3 : k = 3
  · rw [if_pos h3] at h
    subst h3
    obtain ⟨x, y, rfl, hx, hy⟩ := shR_two h
    rw [if_neg (by decide)] at hx
    rw [if_pos (by decide)] at hy
    obtain ⟨l, q, rfl, hl⟩ := part_cases hx
    exact .function n l q y p hn hl hy
  rw [if_neg h3] at h
  by_cases h5 : k = 5
  · rw [if_pos h5] at h
    subst h5
    obtain ⟨x, y, rfl, hx, hy⟩ := shR_two h
    rw [if_pos (by decide)] at hx
    rw [if_neg (by decide)] at hy
    obtain ⟨b, r, rfl, hb⟩ := part_cases hy
    exact .loop n x b r p hn hx hb
  rw [if_neg h5] at h
  by_cases h7 : k = 7
  · rw [if_pos h7] at h
    subst h7
    by_cases hl : l.length = 1
    · rw [if_pos hl] at h
      obtain ⟨x, rfl, hx⟩ := shR_one h
      rw [if_neg (by decide)] at hx
      obtain ⟨a, q, rfl, ha⟩ := part_cases hx
      exact .call n a q p hn ha
    · rw [if_neg hl] at h
      obtain ⟨x, y, rfl, hx, hy⟩ := shR_two h
      rw [if_neg (by decide)] at hx hy
      obtain ⟨a, q, rfl, ha⟩ := part_cases hx
      obtain ⟨b, r, rfl, hb⟩ := part_cases hy
      exact .callB n a q b r p hn ha hb
  rw [if_neg h7] at h
  cases h

/-! ### The words of its text -/
/-- These bytes are these words, whatever ends the last one. -/
def Pc (s : List UInt8) (ws : List Wd) : Prop := ∀ r wr, Sc r wr → En r → Sc (s ++ r) (ws ++ wr)
theorem En.cons {c : UInt8} {r : List UInt8} (h : enC c = true) : En (c :: r) := fun d hd => by cases hd; exact h
theorem En.blank {c : UInt8} {r : List UInt8} (h : isBl c = true) : En (c :: r) := En.cons (by unfold enC; rw [h]; rfl)
theorem Pc.par {s : List UInt8} {ws : List Wd} (h : Pc s ws) (b : Bool) : Pc (parT b s) (parW b ws) := by
  intro r wr hr he
  unfold parT parW
  cases b
  · exact h r wr hr he
  · have h1 := h (41 :: r) ((2, [41]) :: wr) (hr.solo rfl) (En.cons rfl)
    have e1 : (if true = true then [40] ++ s ++ [41] else s) ++ r = 40 :: (s ++ 41 :: r) := by simp
    have e2 : (if true = true then (2, [40]) :: (ws ++ [((2 : Nat), ([41] : List UInt8))]) else ws) ++ wr = (2, [40]) :: (ws ++ (2, [41]) :: wr) := by simp
    rw [e1, e2]
    exact h1.solo rfl
theorem ex0s_map : ∀ l : List Nd, ex0s l = l.map fun x => exT x 0
  | [] => rfl
  | x :: r => by
    show exT x 0 :: ex0s r = _
    rw [ex0s_map r]
    rfl
theorem ex0Ws_map : ∀ l : List Nd, ex0Ws l = l.map fun x => exW x 0
  | [] => rfl
  | x :: r => by
    show exW x 0 :: ex0Ws r = _
    rw [ex0Ws_map r]
    rfl
theorem pc_tail {f : Nd → List UInt8} {g : Nd → List Wd} : ∀ {l : List Nd}, (∀ x ∈ l, Pc (f x) (g x)) → ∀ r wr, Sc r wr → En r → Sc ((l.map f).flatMap (fun y => [44, 32] ++ y) ++ r) ((l.map g).flatMap (fun y => (2, [44]) :: y) ++ wr) ∧ En ((l.map f).flatMap (fun y => [44, 32] ++ y) ++ r)
  | [], _, r, wr, hr, he => ⟨hr, he⟩
  | x :: l, h, r, wr, hr, he => by
    obtain ⟨h1, h2⟩ := pc_tail (l := l) (fun y hy => h y (List.mem_cons_of_mem _ hy)) r wr hr he
    have h3 := (Sc.blank (c := 32) rfl (h x (by simp) _ _ h1 h2)).solo (c := 44) rfl
    refine ⟨?_, ?_⟩
    · simpa using h3
    · intro d hd
      have : d = 44 := by simpa using hd.symm
      subst this
      rfl
theorem pc_join {f : Nd → List UInt8} {g : Nd → List Wd} {l : List Nd} (h : ∀ x ∈ l, Pc (f x) (g x)) : Pc (joinC (l.map f)) (joinW (l.map g)) := by
  intro r wr hr he
  cases l with
  | nil => exact hr
  | cons x l =>
    obtain ⟨h1, h2⟩ := pc_tail (l := l) (fun y hy => h y (List.mem_cons_of_mem _ hy)) r wr hr he
    have := h x (by simp) _ _ h1 h2
    show Sc (f x ++ (l.map f).flatMap (fun y => [44, 32] ++ y) ++ r) (g x ++ (l.map g).flatMap (fun y => (2, [44]) :: y) ++ wr)
    rw [List.append_assoc, List.append_assoc]
    exact this
theorem plain_word {s : List UInt8} (h : plainR s = true) : wordL s = (0, s.length) ∧ s ≠ [] ∧ skipL s = 0 ∧ resv s = false ∧ ∃ c r, s = c :: r ∧ c ≠ 61 := by
  unfold plainR at h
  simp only [Bool.and_eq_true, decide_eq_true_eq, Bool.not_eq_true'] at h
  obtain ⟨⟨h1, h2⟩, h3⟩ := h
  obtain ⟨a, b, c⟩ := name_word h1 h2
  obtain ⟨d, r, e, _, _, f⟩ := name_first h1
  exact ⟨a, b, c, h3, d, r, e, f⟩
theorem num_word {s : List UInt8} (h : numR s = true) : wordL s = (1, s.length) ∧ s ≠ [] ∧ skipL s = 0 ∧ ∃ c r, s = c :: r ∧ c ≠ 61 := by
  unfold numR at h
  split at h
  · rename_i t ht
    simp only [Bool.and_eq_true, decide_eq_true_eq] at h
    unfold tokensL at ht
    split at ht
    · cases ht
    · have hs := toksL_ok _ _ _ _ _ (skip_idem false s) ht t (by simp)
      rw [h.2, h.1] at hs
      refine ⟨hs.1, List.length_pos_iff.1 hs.2.1, hs.2.2, ?_⟩
      cases s with
      | nil => simp at hs
      | cons c r =>
        refine ⟨c, r, rfl, ?_⟩
        rintro rfl
        have hw := hs.1
        have e1 : nameL (61 :: r) = 0 := nameL_no 61 r (by decide) (by kernel_rfl)
        have e2 : numL (61 :: r) = 0 := numL_no 61 r (by decide)
        unfold wordL at hw
        rw [e1, e2] at hw
        simp only [Nat.lt_irrefl, if_false] at hw
        split at hw <;> cases hw
  · cases h
theorem Pc.word {w : List UInt8} {k : Nat} (hw : wordL w = (k, w.length)) (hne : w ≠ []) (hs : skipL w = 0) : Pc w [(k, w)] := fun _ _ hr he => Sc.word hw hne hs he hr
theorem level_sign {s : List UInt8} (h : 0 < levelS s) : s ∈ signsK 0 ∨ s ∈ signsK 1 ∨ s ∈ signsK 2 ∨ s ∈ signsK 3 ∨ s ∈ signsK 4 := by
  unfold levelS at h
  by_cases h0 : s ∈ signsK 0
  · exact .inl h0
  rw [if_neg h0] at h
  by_cases h1 : s ∈ signsK 1
  · exact .inr (.inl h1)
  rw [if_neg h1] at h
  by_cases h2 : s ∈ signsK 2
  · exact .inr (.inr (.inl h2))
  rw [if_neg h2] at h
  by_cases h3 : s ∈ signsK 3
  · exact .inr (.inr (.inr (.inl h3)))
  rw [if_neg h3] at h
  by_cases h4 : s ∈ signsK 4
  · exact .inr (.inr (.inr (.inr h4)))
  rw [if_neg h4] at h
  omega
theorem signs_word : ∀ k, k < 5 → ∀ s ∈ signsK k, wordL s = (2, s.length) ∧ s ≠ [] := by
  intro k hk
  match k, hk with
  | 0, _ => decide
  | 1, _ => decide
  | 2, _ => decide
  | 3, _ => decide
  | 4, _ => decide
theorem sign_word {s : List UInt8} (h : 0 < levelS s) : wordL s = (2, s.length) ∧ s ≠ [] := by
  rcases level_sign h with h | h | h | h | h
  · exact signs_word 0 (by decide) s h
  · exact signs_word 1 (by decide) s h
  · exact signs_word 2 (by decide) s h
  · exact signs_word 3 (by decide) s h
  · exact signs_word 4 (by decide) s h
theorem signs_skip : ∀ k, k < 5 → ∀ s ∈ signsK k, ∃ c r, s = c :: r ∧ isBl c = false ∧ (c = 47 → r = []) := by
  intro k hk s hs
  have : s = [124, 124] ∨ s = [38, 38] ∨ s = [60] ∨ s = [60, 61] ∨ s = [61, 61] ∨ s = [33, 61] ∨ s = [62, 61] ∨ s = [62] ∨ s = [43] ∨ s = [45] ∨ s = [42] ∨ s = [47] := by
    match k, hk with
    | 0, _ => simp [signsK] at hs; simp [hs]
    | 1, _ => simp [signsK] at hs; simp [hs]
    | 2, _ => simp [signsK] at hs; rcases hs with rfl | rfl | rfl | rfl | rfl | rfl <;> simp
    | 3, _ => simp [signsK] at hs; rcases hs with rfl | rfl <;> simp
    | 4, _ => simp [signsK] at hs; rcases hs with rfl | rfl <;> simp
  rcases this with rfl | rfl | rfl | rfl | rfl | rfl | rfl | rfl | rfl | rfl | rfl | rfl <;> exact ⟨_, _, rfl, by decide, by decide⟩
/-- A sign of two with a blank behind it. -/
theorem Sc.sign {s : List UInt8} (h : 0 < levelS s) {r : List UInt8} {wr : List Wd} (hr : Sc r wr) : Sc (s ++ 32 :: r) ((2, s) :: wr) := by
  obtain ⟨hw, hne⟩ := sign_word h
  have hsk : ∃ c t, s = c :: t ∧ isBl c = false ∧ (c = 47 → t = []) := by
    rcases level_sign h with h | h | h | h | h
    · exact signs_skip 0 (by decide) s h
    · exact signs_skip 1 (by decide) s h
    · exact signs_skip 2 (by decide) s h
    · exact signs_skip 3 (by decide) s h
    · exact signs_skip 4 (by decide) s h
  refine Sc.tok (by rw [wordL_en s _ hne (En.cons rfl), hw]) hne ?_ (Sc.blank rfl hr)
  obtain ⟨c, t, rfl, h1, h2⟩ := hsk
  unfold skipL
  rw [List.cons_append, skip_zero]
  refine ⟨h1, fun h3 => ?_⟩
  rw [h2 h3.1] at h3
  simp at h3
/-- What an expression's text begins with. -/
theorem ex_first : ∀ (N : Nat) (x : Nd), szN x < N → exR x = true → ∀ a, ∃ c r, exT x a = c :: r ∧ c ≠ 61
  | 0, _, h, _, _ => by omega
  | N + 1, x, hN, hx, a => by
    have par : ∀ (b : Bool) (s : List UInt8), (∃ c r, s = c :: r ∧ c ≠ 61) → ∃ c r, parT b s = c :: r ∧ c ≠ 61 := by
      intro b s h
      cases b
      · exact h
      · exact ⟨40, s ++ [41], by simp [parT], by decide⟩
    cases exC_of hx with
    | num s p h => exact par _ _ (num_word h).2.2.2
    | name s p h => exact par _ _ (plain_word h).2.2.2.2
    | list l p h => exact par _ _ ⟨91, _, rfl, by decide⟩
    | one s y p h hy =>
      refine par _ _ ?_
      rcases h with rfl | rfl
      · exact ⟨45, _, rfl, by decide⟩
      · exact ⟨33, _, rfl, by decide⟩
    | two s y z p h hy hz =>
      have hlt : szN y < N := by simp only [szN, szL] at hN; omega
      obtain ⟨c, r, e, hc⟩ := ex_first N y hlt hy (if levelS s = 3 then 4 else levelS s)
      refine par _ _ ⟨c, r ++ ([32] ++ s ++ [32]) ++ exT z (levelS s + 1), ?_, hc⟩
      show exT y (if levelS s = 3 then 4 else levelS s) ++ ([32] ++ s ++ [32]) ++ exT z (levelS s + 1) = _
      rw [e]
      rfl
    | apply s l q p h hl =>
      obtain ⟨c, r, e, hc⟩ := (plain_word h).2.2.2.2
      refine par _ _ ⟨c, r ++ [40] ++ joinC (ex0s l) ++ [41], ?_, hc⟩
      show s ++ [40] ++ joinC (ex0s l) ++ [41] = _
      rw [e]
      rfl
    | index y z p hy hz =>
      have hlt : szN y < N := by simp only [szN, szL] at hN; omega
      obtain ⟨c, r, e, hc⟩ := ex_first N y hlt hy 7
      refine par _ _ ⟨c, r ++ [91] ++ exT z 0 ++ [93], ?_, hc⟩
      show exT y 7 ++ [91] ++ exT z 0 ++ [93] = _
      rw [e]
      rfl
    | pick y z u p hy hz hu =>
      have hlt : szN y < N := by simp only [szN, szL] at hN; omega
      obtain ⟨c, r, e, hc⟩ := ex_first N y hlt hy 1
      refine par _ _ ⟨c, r ++ [32, 63, 32] ++ exT z 0 ++ [32, 58, 32] ++ exT u 0, ?_, hc⟩
      show exT y 1 ++ [32, 63, 32] ++ exT z 0 ++ [32, 58, 32] ++ exT u 0 = _
      rw [e]
      rfl
theorem szL_mem {l : List Nd} {x : Nd} (h : x ∈ l) : szN x ≤ szL l := by
  obtain ⟨i, hi, rfl⟩ := List.mem_iff_getElem.1 h
  exact szL_at (List.getElem?_eq_getElem hi)
/-- An expression's text has its words. -/
theorem ex_sc : ∀ (N : Nat) (x : Nd), szN x < N → exR x = true → ∀ a, Pc (exT x a) (exW x a)
  | 0, _, h, _, _ => by omega
  | N + 1, x, hN, hx, a => by
    have ih := ex_sc N
    cases exC_of hx with
    | num s p h =>
      obtain ⟨h1, h2, h3, _⟩ := num_word h
      exact (Pc.word h1 h2 h3).par _
    | name s p h =>
      obtain ⟨h1, h2, h3, _⟩ := plain_word h
      exact (Pc.word h1 h2 h3).par _
    | list l p h =>
      have hl : Pc (joinC (ex0s l)) (joinW (ex0Ws l)) := by
        rw [ex0s_map, ex0Ws_map]
        exact pc_join fun y hy => ih y (by have := szL_mem hy; simp only [szN] at hN; omega) (exsR_mem h y hy) 0
      refine Pc.par (s := [91] ++ joinC (ex0s l) ++ [93]) (ws := (2, [91]) :: (joinW (ex0Ws l) ++ [(2, [93])])) ?_ _
      intro r wr hr he
      have := (hl _ _ (hr.solo (c := 93) rfl) (En.cons rfl)).solo (c := 91) rfl
      simpa using this
    | one s y p h hy =>
      have hlt : szN y < N := by simp only [szN, szL] at hN; omega
      refine Pc.par (s := s ++ exT y 6) (ws := (2, s) :: exW y 6) ?_ _
      intro r wr hr he
      have h1 := ih y hlt hy 6 r wr hr he
      obtain ⟨c, t, e, hc⟩ := ex_first N y hlt hy 6
      rcases h with rfl | rfl
      · exact h1.solo (c := 45) rfl
      · refine Sc.not ?_ h1
        rw [e]
        simpa using hc
    | two s y z p h hy hz =>
      have hlt : szN y < N ∧ szN z < N := by simp only [szN, szL] at hN; omega
      refine Pc.par (s := exT y (if levelS s = 3 then 4 else levelS s) ++ ([32] ++ s ++ [32]) ++ exT z (levelS s + 1)) (ws := exW y (if levelS s = 3 then 4 else levelS s) ++ (2, s) :: exW z (levelS s + 1)) ?_ _
      intro r wr hr he
      have h1 := Sc.blank (c := 32) rfl ((ih z hlt.2 hz (levelS s + 1) r wr hr he).sign h)
      have h2 := ih y hlt.1 hy (if levelS s = 3 then 4 else levelS s) _ _ h1 (En.cons rfl)
      simpa using h2
    | apply s l q p h hl =>
      obtain ⟨h1, h2, h3, _⟩ := plain_word h
      have hj : Pc (joinC (ex0s l)) (joinW (ex0Ws l)) := by
        rw [ex0s_map, ex0Ws_map]
        exact pc_join fun y hy => ih y (by have := szL_mem hy; simp only [szN, szL] at hN; omega) (exsR_mem hl y hy) 0
      refine Pc.par (s := s ++ [40] ++ joinC (ex0s l) ++ [41]) (ws := (0, s) :: (2, [40]) :: (joinW (ex0Ws l) ++ [(2, [41])])) ?_ _
      intro r wr hr he
      have h4 := (hj _ _ (hr.solo (c := 41) rfl) (En.cons rfl)).solo (c := 40) rfl
      have h5 := Sc.word h1 h2 h3 (En.cons rfl) h4
      simpa using h5
    | index y z p hy hz =>
      have hlt : szN y < N ∧ szN z < N := by simp only [szN, szL] at hN; omega
      refine Pc.par (s := exT y 7 ++ [91] ++ exT z 0 ++ [93]) (ws := exW y 7 ++ (2, [91]) :: (exW z 0 ++ [(2, [93])])) ?_ _
      intro r wr hr he
      have h1 := (ih z hlt.2 hz 0 _ _ (hr.solo (c := 93) rfl) (En.cons rfl)).solo (c := 91) rfl
      have h2 := ih y hlt.1 hy 7 _ _ h1 (En.cons rfl)
      simpa using h2
    | pick y z u p hy hz hu =>
      have hlt : szN y < N ∧ szN z < N ∧ szN u < N := by simp only [szN, szL] at hN; omega
      refine Pc.par (s := exT y 1 ++ [32, 63, 32] ++ exT z 0 ++ [32, 58, 32] ++ exT u 0) (ws := exW y 1 ++ (2, [63]) :: (exW z 0 ++ (2, [58]) :: exW u 0)) ?_ _
      intro r wr hr he
      have h1 := ih u hlt.2.2 hu 0 r wr hr he
      have h2 := Sc.blank (c := 32) rfl (Sc.word (w := [58]) (k := 2) (by decide) (by simp) (by decide) (En.cons rfl) (Sc.blank (c := 32) rfl h1))
      have h3 := ih z hlt.2.1 hz 0 _ _ h2 (En.cons rfl)
      have h4 := Sc.blank (c := 32) rfl (Sc.word (w := [63]) (k := 2) (by decide) (by simp) (by decide) (En.cons rfl) (Sc.blank (c := 32) rfl h3))
      have h5 := ih y hlt.1 hy 1 _ _ h4 (En.cons rfl)
      simpa using h5
theorem ex_pc {x : Nd} (h : exR x = true) (a : Nat) : Pc (exT x a) (exW x a) := ex_sc (szN x + 1) x (Nat.lt_succ_self _) h a
theorem row_pc {l : List Nd} (h : exsR l = true) : Pc (joinC (ex0s l)) (joinW (ex0Ws l)) := by
  rw [ex0s_map, ex0Ws_map]
  exact pc_join fun y hy => ex_pc (exsR_mem h y hy) 0
theorem pars_exs {l : List Nd} (h : parsR l = true) : exsR l = true := exsR_of fun x hx => (parsR_mem h x hx).2
theorem Sc.kw {w : List UInt8} (h : w = wModule ∨ w = wFunction ∨ w = wFor ∨ w = wIf ∨ w = wElse) {r : List UInt8} {wr : List Wd} (hr : Sc r wr) (he : En r) : Sc (w ++ r) ((0, w) :: wr) := by
  refine Sc.word ?_ ?_ ?_ he hr
  · rcases h with rfl | rfl | rfl | rfl | rfl <;> kernel_rfl
  · rcases h with rfl | rfl | rfl | rfl | rfl <;> decide
  · rcases h with rfl | rfl | rfl | rfl | rfl <;> decide
/-- A statement's text has its words. -/
def Ps (s : List UInt8) (ws : List Wd) : Prop := ∀ r wr, Sc r wr → Sc (s ++ r) (ws ++ wr)
theorem all_pad {pad : List UInt8} (h : pad.all isBl = true) : (pad ++ [32, 32]).all isBl = true := by
  rw [List.all_append, h]
  rfl
theorem sts_sc {pad : List UInt8} (hp : pad.all isBl = true) : ∀ {l : List Nd}, (∀ x ∈ l, Ps (stT x pad) (stW x)) → Ps (stsT l pad) (stsW l)
  | [], _, _, _, hr => hr
  | x :: l, h, r, wr, hr => by
    have h1 := sts_sc hp (l := l) (fun y hy => h y (List.mem_cons_of_mem _ hy)) r wr hr
    have h2 := (h x (by simp) _ _ (Sc.blank (c := 10) rfl h1)).blanks hp
    show Sc (pad ++ stT x pad ++ [10] ++ stsT l pad ++ r) (stW x ++ stsW l ++ wr)
    simpa using h2
theorem blk_sc {pad : List UInt8} (hp : pad.all isBl = true) {l : List Nd} (h : ∀ x ∈ l, Ps (stT x (pad ++ [32, 32])) (stW x)) : Ps ([32, 123, 10] ++ stsT l (pad ++ [32, 32]) ++ (pad ++ [125])) ((2, [123]) :: (stsW l ++ [(2, [125])])) := by
  intro r wr hr
  have h1 := (hr.solo (c := 125) rfl).blanks hp
  have h2 := sts_sc (all_pad hp) h _ _ h1
  have h3 := Sc.blank (c := 32) rfl ((Sc.blank (c := 10) rfl h2).solo (c := 123) rfl)
  simpa using h3
theorem blk_at (y : Nd) (b : List Nd) (t : Int) (r : List Nd) (pad : List UInt8) : (blksT (y :: .mk 0 [] b t :: r) pad)[1]?.getD [] = [32, 123, 10] ++ stsT b (pad ++ [32, 32]) ++ (pad ++ [125]) := by cases y; rfl
theorem blkW_at (y : Nd) (b : List Nd) (t : Int) (r : List Nd) : (blksW (y :: .mk 0 [] b t :: r))[1]?.getD [] = (2, [123]) :: (stsW b ++ [(2, [125])]) := by cases y; rfl
theorem blk_at2 (y : Nd) (c : List Nd) (u : Int) (b : List Nd) (t : Int) (r : List Nd) (pad : List UInt8) : (blksT (y :: .mk 0 [] c u :: .mk 0 [] b t :: r) pad)[2]?.getD [] = [32, 123, 10] ++ stsT b (pad ++ [32, 32]) ++ (pad ++ [125]) := by cases y; rfl
theorem blkW_at2 (y : Nd) (c : List Nd) (u : Int) (b : List Nd) (t : Int) (r : List Nd) : (blksW (y :: .mk 0 [] c u :: .mk 0 [] b t :: r))[2]?.getD [] = (2, [123]) :: (stsW b ++ [(2, [125])]) := by cases y; rfl
theorem st_sc : ∀ (N : Nat) (x : Nd), szN x < N → stR x = true → ∀ pad, pad.all isBl = true → Ps (stT x pad) (stW x)
  | 0, _, h, _, _, _ => by omega
  | N + 1, x, hN, hx, pad, hp => by
    have B : ∀ (b : List Nd), szL b < N → stsR b = true → Ps ([32, 123, 10] ++ stsT b (pad ++ [32, 32]) ++ (pad ++ [125])) ((2, [123]) :: (stsW b ++ [(2, [125])])) := fun b hb hs =>
      blk_sc hp fun y hy => st_sc N y (by have := szL_mem hy; omega) (stsR_mem hs y hy) _ (all_pad hp)
    cases stC_of hx with
    | set s y p h hy =>
      obtain ⟨h1, h2, h3, _⟩ := plain_word h
      intro r wr hr
      have h4 := ex_pc hy 0 _ _ (hr.solo (c := 59) rfl) (En.cons rfl)
      have h5 := Sc.blank (c := 32) rfl (Sc.word (w := [61]) (k := 2) (by decide) (by simp) (by decide) (En.cons rfl) (Sc.blank (c := 32) rfl h4))
      have h6 := Sc.word h1 h2 h3 (En.cons rfl) h5
      show Sc (s ++ [32, 61, 32] ++ exT y 0 ++ [59] ++ r) ((0, s) :: (2, [61]) :: (exW y 0 ++ [(2, [59])]) ++ wr)
      simpa using h6
    | module s l q b t p h hl hb =>
      obtain ⟨h1, h2, h3, _⟩ := plain_word h
      intro r wr hr
      have h4 := B b (by simp only [szN, szL] at hN; omega) hb r wr hr
      have h5 := (row_pc (pars_exs hl) _ _ (h4.solo (c := 41) rfl) (En.cons rfl)).solo (c := 40) rfl
      have h6 := Sc.kw (w := wModule) (.inl rfl) (Sc.blank (c := 32) rfl (Sc.word h1 h2 h3 (En.cons rfl) h5)) (En.cons rfl)
      show Sc ((wModule ++ [32] ++ s ++ [40]) ++ joinC (ex0s l) ++ [41] ++ ([32, 123, 10] ++ stsT b (pad ++ [32, 32]) ++ (pad ++ [125])) ++ r) ((0, wModule) :: (0, s) :: (2, [40]) :: (joinW (ex0Ws l) ++ (2, [41]) :: (2, [123]) :: (stsW b ++ [(2, [125])])) ++ wr)
      simpa using h6
    | function s l q y p h hl hy =>
      obtain ⟨h1, h2, h3, _⟩ := plain_word h
      intro r wr hr
      have h4 := ex_pc hy 0 _ _ (hr.solo (c := 59) rfl) (En.cons rfl)
      have h5 := Sc.blank (c := 32) rfl (Sc.word (w := [61]) (k := 2) (by decide) (by simp) (by decide) (En.cons rfl) (Sc.blank (c := 32) rfl h4))
      have h6 := (row_pc (pars_exs hl) _ _ (h5.solo (c := 41) rfl) (En.cons rfl)).solo (c := 40) rfl
      have h7 := Sc.kw (w := wFunction) (.inr (.inl rfl)) (Sc.blank (c := 32) rfl (Sc.word h1 h2 h3 (En.cons rfl) h6)) (En.cons rfl)
      show Sc ((wFunction ++ [32] ++ s ++ [40]) ++ joinC (ex0s l) ++ [41, 32, 61, 32] ++ exT y 0 ++ [59] ++ r) ((0, wFunction) :: (0, s) :: (2, [40]) :: (joinW (ex0Ws l) ++ (2, [41]) :: (2, [61]) :: (exW y 0 ++ [(2, [59])])) ++ wr)
      simpa using h7
    | loop s y b t p h hy hb =>
      obtain ⟨h1, h2, h3, _⟩ := plain_word h
      intro r wr hr
      have h4 := B b (by simp only [szN, szL] at hN; omega) hb r wr hr
      have h5 := ex_pc hy 0 _ _ (h4.solo (c := 41) rfl) (En.cons rfl)
      have h6 := Sc.blank (c := 32) rfl (Sc.word (w := [61]) (k := 2) (by decide) (by simp) (by decide) (En.cons rfl) (Sc.blank (c := 32) rfl h5))
      have h7 := (Sc.word h1 h2 h3 (En.cons rfl) h6).solo (c := 40) rfl
      have h8 := Sc.kw (w := wFor) (.inr (.inr (.inl rfl))) (Sc.blank (c := 32) rfl h7) (En.cons rfl)
      show Sc ((wFor ++ [32, 40] ++ s ++ [32, 61, 32]) ++ exT y 0 ++ [41] ++ (blksT [y, .mk 0 [] b t] pad)[1]?.getD [] ++ r) ((0, wFor) :: (2, [40]) :: (0, s) :: (2, [61]) :: (exW y 0 ++ (2, [41]) :: (blksW [y, .mk 0 [] b t])[1]?.getD []) ++ wr)
      rw [blk_at y, blkW_at y]
      simpa using h8
    | cond y b t p hy hb =>
      intro r wr hr
      have h4 := B b (by simp only [szN, szL] at hN; omega) hb r wr hr
      have h5 := (ex_pc hy 0 _ _ (h4.solo (c := 41) rfl) (En.cons rfl)).solo (c := 40) rfl
      have h8 := Sc.kw (w := wIf) (.inr (.inr (.inr (.inl rfl)))) (Sc.blank (c := 32) rfl h5) (En.cons rfl)
      show Sc ((wIf ++ [32, 40]) ++ exT y 0 ++ [41] ++ (blksT [y, .mk 0 [] b t] pad)[1]?.getD [] ++ [] ++ r) ((0, wIf) :: (2, [40]) :: (exW y 0 ++ (2, [41]) :: ((blksW [y, .mk 0 [] b t])[1]?.getD [] ++ [])) ++ wr)
      rw [blk_at y, blkW_at y]
      simpa using h8
    | cond2 y b t b' t' p hy hb hb' =>
      intro r wr hr
      have h3 := B b' (by simp only [szN, szL] at hN; omega) hb' r wr hr
      have h3' := Sc.blank (c := 32) rfl (Sc.kw (w := wElse) (.inr (.inr (.inr (.inr rfl)))) h3 (En.cons rfl))
      have h4 := B b (by simp only [szN, szL] at hN; omega) hb _ _ h3'
      have h5 := (ex_pc hy 0 _ _ (h4.solo (c := 41) rfl) (En.cons rfl)).solo (c := 40) rfl
      have h8 := Sc.kw (w := wIf) (.inr (.inr (.inr (.inl rfl)))) (Sc.blank (c := 32) rfl h5) (En.cons rfl)
      show Sc ((wIf ++ [32, 40]) ++ exT y 0 ++ [41] ++ (blksT [y, .mk 0 [] b t, .mk 0 [] b' t'] pad)[1]?.getD [] ++ (([32] ++ wElse) ++ (blksT [y, .mk 0 [] b t, .mk 0 [] b' t'] pad)[2]?.getD []) ++ r) ((0, wIf) :: (2, [40]) :: (exW y 0 ++ (2, [41]) :: ((blksW [y, .mk 0 [] b t, .mk 0 [] b' t'])[1]?.getD [] ++ (0, wElse) :: (blksW [y, .mk 0 [] b t, .mk 0 [] b' t'])[2]?.getD [])) ++ wr)
      rw [blk_at y, blkW_at y, blk_at2 y, blkW_at2 y]
      simpa using h8
    | call s l q p h hl =>
      obtain ⟨h1, h2, h3, _⟩ := plain_word h
      intro r wr hr
      have h5 := (row_pc hl _ _ ((hr.solo (c := 59) rfl).solo (c := 41) rfl) (En.cons rfl)).solo (c := 40) rfl
      have h6 := Sc.word h1 h2 h3 (En.cons rfl) h5
      show Sc ((s ++ [40]) ++ joinC (ex0s l) ++ [41] ++ [59] ++ r) ((0, s) :: (2, [40]) :: (joinW (ex0Ws l) ++ (2, [41]) :: [(2, [59])]) ++ wr)
      simpa using h6
    | callB s l q b t p h hl hb =>
      obtain ⟨h1, h2, h3, _⟩ := plain_word h
      intro r wr hr
      have h4 := B b (by simp only [szN, szL] at hN; omega) hb r wr hr
      have h5 := (row_pc hl _ _ (h4.solo (c := 41) rfl) (En.cons rfl)).solo (c := 40) rfl
      have h6 := Sc.word h1 h2 h3 (En.cons rfl) h5
      show Sc ((s ++ [40]) ++ joinC (ex0s l) ++ [41] ++ ([32, 123, 10] ++ stsT b (pad ++ [32, 32]) ++ (pad ++ [125])) ++ r) ((0, s) :: (2, [40]) :: (joinW (ex0Ws l) ++ (2, [41]) :: (2, [123]) :: (stsW b ++ [(2, [125])])) ++ wr)
      simpa using h6
/-- The words of a right list of statements' text. -/
theorem text_sc {l : List Nd} (h : stsR l = true) : Sc (stsT l []) (stsW l) := by
  have := sts_sc (pad := []) rfl (fun x hx => st_sc (szN x + 1) x (Nat.lt_succ_self _) (stsR_mem h x hx) [] rfl) [] [] Sc.nil
  simpa using this
end Go.Proofs.YtpbkeamjdolpgaaGreatDoor
