/- Plain: TreeBlanks' law: blanks and comments change nothing but places; a text behind another one adds its statements. -/
import Derived.Test.YtpbkeamjdolpgaaGreatDoorB26
namespace Go.Proofs.YtpbkeamjdolpgaaGreatDoor
open Go.RowKit Go.Lib

theorem Sc.skip {c l : List UInt8} {ws : List Wd} (h : Sc l ws) (hc : skipL (c ++ l) = c.length + skipL l) : Sc (c ++ l) ws := by
  intro f n p hn hf
  have e : scanL f n p (c ++ l) = scanL f n (p + c.length) l := by
    unfold scanL
    rw [hc, ← List.drop_drop, List.drop_left, Nat.add_assoc]
  rw [e]
  exact h f n _ hn (by rw [List.length_append] at hf; omega)
/-- What may stand behind a text. -/
structure Suf (z : List UInt8) (wz : List Wd) : Prop where
  word : ∀ m, m ≠ [] → wordL (m ++ z) = wordL m
  skip0 : ∀ m, m ≠ [] → skipL m = 0 → skipL (m ++ z) = 0
  all : ∀ l, skipL l = l.length → skipL (l ++ z) = l.length + skipL z
  some : ∀ l, skipL l ≠ l.length → skipL (l ++ z) = skipL l
  sc : Sc z wz
theorem Suf.nil : Suf [] [] where
  word m _ := by rw [List.append_nil]
  skip0 m _ h := by rw [List.append_nil]; exact h
  all l h := by rw [List.append_nil, h]; rfl
  some l _ := by rw [List.append_nil]
  sc := Sc.nil
theorem Suf.line {t : List UInt8} {wt : List Wd} (h : Sc t wt) : Suf (10 :: t) wt where
  word m hm := wordL_app m 10 t hm rfl
  skip0 m hm h0 := skip_app0 10 t m (by decide) hm h0
  all l hl := by
    have h1 := skip_app10 t false l
    have h2 : skipL (10 :: t) = 1 + skipL t := by unfold skipL; rw [skip_cons, if_pos (by rfl)]
    unfold skipL at hl h2 ⊢
    rw [h1, if_pos hl, h2]
  some l hl := by
    have h1 := skip_app10 t false l
    unfold skipL at hl ⊢
    rw [h1, if_neg hl]
  sc := Sc.blank rfl h
theorem sc_of {z : List UInt8} {wz : List Wd} (hz : Suf z wz) : ∀ (f n p : Nat) (l : List UInt8) (ts : List Tk), scanL f n p l = .ok ts → l.length ≤ f → Sc (l ++ z) (ts.map kt ++ wz)
  | f, n, p, l, ts, h, hf => by
    have hsk : skipL l ≤ l.length := skipB_le _ _
    unfold scanL at h
    by_cases hq : skipL l = l.length
    · rw [hq, List.drop_eq_nil_of_le (Nat.le_refl _)] at h
      have hts : ts = [] := by
        cases f <;> simp [toksL] at h <;> exact h
      subst hts
      exact Sc.skip hz.sc (hz.all l hq)
    · obtain ⟨m, hm⟩ : ∃ m, l.drop (skipL l) = m := ⟨_, rfl⟩
      have hml : m.length = l.length - skipL l := by rw [← hm, List.length_drop]
      have hmne : m ≠ [] := by intro h0; rw [h0] at hml; simp at hml; omega
      have hm0 : skipL m = 0 := by rw [← hm]; exact skip_idem false l
      have e : l ++ z = l.take (skipL l) ++ (m ++ z) := by rw [← hm, ← List.append_assoc, List.take_append_drop]
      rw [hm] at h
      have hs0 := hz.skip0 m hmne hm0
      have hgo : Sc (m ++ z) (ts.map kt ++ wz) := by
        cases f with
        | zero => omega
        | succ f =>
          rw [toksL_step _ _ _ _ hmne] at h
          have hw := wordL_le m
          by_cases h0 : (wordL m).2 = 0
          · rw [if_pos h0] at h; cases h
          · rw [if_neg h0] at h
            by_cases h1 : n = 4096
            · rw [if_pos h1] at h; cases h
            · rw [if_neg h1] at h
              obtain ⟨X, hX⟩ : ∃ X, toksL f (n + 1) (p + skipL l + (wordL m).2 + skipL (m.drop (wordL m).2)) (m.drop ((wordL m).2 + skipL (m.drop (wordL m).2))) = X := ⟨_, rfl⟩
              rw [hX] at h
              cases X with
              | error x => cases h
              | ok us =>
                cases h
                have ih := sc_of hz f (n + 1) (p + skipL l + (wordL m).2) (m.drop (wordL m).2) us (by unfold scanL; rw [List.drop_drop]; exact hX) (by rw [List.length_drop]; omega)
                have e2 : m ++ z = m.take (wordL m).2 ++ (m.drop (wordL m).2 ++ z) := by rw [← List.append_assoc, List.take_append_drop]
                have hlen : (m.take (wordL m).2).length = (wordL m).2 := by rw [List.length_take]; omega
                have := Sc.tok (w := m.take (wordL m).2) (r := m.drop (wordL m).2 ++ z) (k := (wordL m).1) (by rw [← e2, hz.word m hmne, hlen]) (by intro h2; rw [h2] at hlen; exact h0 hlen.symm) (by rw [← e2]; exact hs0) ih
                rw [e2]
                exact this
      rw [e]
      refine Sc.skip hgo ?_
      rw [← e, hz.some l hq, hs0, List.length_take]
      omega
theorem scan_of {s : List UInt8} {ts : List Tk} (h : tokensL s = .ok ts) : scanL s.length 0 0 s = .ok ts := by
  unfold tokensL at h
  split at h
  · cases h
  · unfold scanL
    rw [Nat.zero_add]
    exact h
theorem sc_self {s : List UInt8} {ts : List Tk} (h : tokensL s = .ok ts) : Sc s (ts.map kt) := by
  have := sc_of Suf.nil _ _ _ _ _ (scan_of h) (Nat.le_refl _)
  rwa [List.append_nil, List.append_nil] at this
theorem sc_lines {s t : List UInt8} {a b : List Tk} (ha : tokensL s = .ok a) (hb : tokensL t = .ok b) : Sc (s ++ 10 :: t) (a.map kt ++ b.map kt) :=
  sc_of (Suf.line (sc_self hb)) _ _ _ _ _ (scan_of ha) (Nat.le_refl _)

def sepW : List UInt8 := [32, 47, 47, 32, 109, 111, 114, 101, 32, 255, 10, 9]
def beginsW : List UInt8 := [47, 47, 32, 98, 101, 103, 105, 110, 115, 10]
def looseT (ws : List (List UInt8)) : List UInt8 := beginsW ++ Lib.join ws sepW ++ [13, 10]
theorem skc_in (c : UInt8) (r : List UInt8) (h : c ≠ 10) : skipB true (c :: r) = 1 + skipB true r := by rw [skipB, if_neg h]
theorem skc_nl (r : List UInt8) : skipB true (10 :: r) = 1 + skipB false r := by rw [skipB, if_pos rfl]
theorem skc_com (r : List UInt8) : skipB false (47 :: 47 :: r) = 1 + skipB true (47 :: r) := by rw [skip_cons, if_neg (by decide), if_pos ⟨rfl, rfl⟩]
theorem skc_bl (c : UInt8) (r : List UInt8) (h : isBl c = true) : skipB false (c :: r) = 1 + skipB false r := by rw [skip_cons, if_pos h]
theorem skip_sep (r : List UInt8) : skipL (sepW ++ r) = sepW.length + skipL r := by
  show skipB false (32 :: 47 :: 47 :: 32 :: 109 :: 111 :: 114 :: 101 :: 32 :: 255 :: 10 :: 9 :: r) = 12 + skipB false r
  rw [skc_bl _ _ (by decide), skc_com]
  iterate 8 rw [skc_in _ _ (by decide)]
  rw [skc_nl, skc_bl _ _ (by decide)]
  omega
theorem skip_begins (r : List UInt8) : skipL (beginsW ++ r) = beginsW.length + skipL r := by
  show skipB false (47 :: 47 :: 32 :: 98 :: 101 :: 103 :: 105 :: 110 :: 115 :: 10 :: r) = 10 + skipB false r
  rw [skc_com]
  iterate 8 rw [skc_in _ _ (by decide)]
  rw [skc_nl]
  omega
theorem tokens_words {s : List UInt8} {ts : List Tk} (h : tokensL s = .ok ts) : ∀ t ∈ ts, wordL t.2.1 = (t.1, t.2.1.length) ∧ 0 < t.2.1.length ∧ skipL t.2.1 = 0 := by
  unfold tokensL at h
  split at h
  · cases h
  · exact toksL_ok _ _ _ _ _ (skip_idem false s) h
theorem sc_join : ∀ (ts : List Tk) (r : List UInt8) (wr : List Wd), (∀ t ∈ ts, wordL t.2.1 = (t.1, t.2.1.length) ∧ 0 < t.2.1.length ∧ skipL t.2.1 = 0) → Sc r wr → En r →
    Sc (Lib.joinTail sepW (ts.map fun t => t.2.1) ++ r) (ts.map kt ++ wr) ∧ En (Lib.joinTail sepW (ts.map fun t => t.2.1) ++ r)
  | [], r, wr, _, hr, he => ⟨by simpa [Lib.joinTail] using hr, by simpa [Lib.joinTail] using he⟩
  | t :: ts, r, wr, h, hr, he => by
    obtain ⟨h1, h2⟩ := sc_join ts r wr (fun u hu => h u (List.mem_cons_of_mem _ hu)) hr he
    obtain ⟨k1, k2, k3⟩ := h t (by simp)
    have e : Lib.joinTail sepW ((t :: ts).map fun t => t.2.1) ++ r = sepW ++ (t.2.1 ++ (Lib.joinTail sepW (ts.map fun t => t.2.1) ++ r)) := by
      simp [Lib.joinTail, List.append_assoc]
    rw [e]
    refine ⟨?_, ?_⟩
    · refine Sc.skip ?_ (skip_sep _)
      show Sc _ ((t.1, t.2.1) :: (ts.map kt ++ wr))
      exact Sc.word k1 (List.length_pos_iff.1 k2) k3 h2 h1
    · intro c hc
      cases hc
      rfl
theorem sc_loose (ts : List Tk) (h : ∀ t ∈ ts, wordL t.2.1 = (t.1, t.2.1.length) ∧ 0 < t.2.1.length ∧ skipL t.2.1 = 0) : Sc (looseT (ts.map fun t => t.2.1)) (ts.map kt) := by
  unfold looseT
  rw [List.append_assoc]
  refine Sc.skip ?_ (skip_begins _)
  have hr : Sc [13, 10] [] := Sc.blanks (b := [13, 10]) Sc.nil (by decide)
  have he : En [13, 10] := fun c hc => by cases hc; rfl
  cases ts with
  | nil => exact hr
  | cons t ts =>
    obtain ⟨h1, h2⟩ := sc_join ts [13, 10] [] (fun u hu => h u (List.mem_cons_of_mem _ hu)) hr he
    obtain ⟨k1, k2, k3⟩ := h t (by simp)
    rw [List.map_cons, Lib.join_cons, List.append_assoc]
    have := Sc.word k1 (List.length_pos_iff.1 k2) k3 h2 h1
    rw [List.append_nil] at this
    exact this
theorem places_len (s : List UInt8) : ∀ (ts : List Tk) (e : Nat), PlOk s e ts → e ≤ s.length → e + (ts.map fun t => t.2.1.length).sum ≤ s.length ∧ ts.length ≤ (ts.map fun t => t.2.1.length).sum
  | [], e, _, he => ⟨by simpa using he, by simp⟩
  | t :: ts, e, h, he => by
    obtain ⟨h1, _, h2, h3, _, h4⟩ := h
    obtain ⟨k1, k2⟩ := places_len s ts _ h4 h3
    have := List.length_pos_iff.2 h2
    rw [List.map_cons, List.sum_cons, List.length_cons]
    exact ⟨by omega, by omega⟩
theorem tail_len (sep : List UInt8) : ∀ ts : List Tk, (Lib.joinTail sep (ts.map fun t => t.2.1)).length = sep.length * ts.length + (ts.map fun t => t.2.1.length).sum
  | [] => by simp [Lib.joinTail]
  | t :: ts => by
    have ih := tail_len sep ts
    simp only [Lib.joinTail, List.map_cons, List.flatten_cons, List.length_append, List.length_cons, List.sum_cons] at ih ⊢
    rw [ih, Nat.mul_add]
    omega
theorem loose_len {s : List UInt8} {ts : List Tk} (h : tokensL s = .ok ts) (hs : s.length ≤ 8192) : (looseT (ts.map fun t => t.2.1)).length ≤ 57400 := by
  have h1 := (places_len s ts 0 (tokensL_places s ts h) (Nat.zero_le _)).1
  have h2 := tokensL_len s ts h
  unfold looseT
  rw [List.length_append, List.length_append]
  show 10 + _ + 2 ≤ _
  cases ts with
  | nil => simp [Lib.join_nil]
  | cons t ts =>
    rw [List.map_cons, Lib.join_cons, List.length_append, tail_len]
    rw [List.map_cons, List.sum_cons] at h1
    rw [List.length_cons] at h2
    show 10 + (_ + (12 * _ + _)) + 2 ≤ _
    omega

theorem kind_kt (ts : List Tk) (p : Nat) : kindT ts p = match (ts.map kt)[p]? with | some t => (t.1 : Int) | none => -1 := by
  unfold kindT
  rw [List.getElem?_map]
  cases ts[p]? <;> rfl
theorem text_kt (ts : List Tk) (p : Nat) : textT ts p = match (ts.map kt)[p]? with | some t => t.2 | none => [] := by
  unfold textT
  rw [List.getElem?_map]
  cases ts[p]? <;> rfl
theorem goes_of {us ts : List Tk} {n : Nat} (h : ∀ p, p < us.length → (ts.map kt)[n + p]? = (us.map kt)[p]?) (hend : ∀ s, s ∉ starts → isT ts (n + us.length) s = false) (hnum : kindT ts (n + us.length) ≠ 1) : Goes us ts n :=
  ⟨fun p hp => by rw [kind_kt, kind_kt, text_kt, text_kt, h p hp]; exact ⟨rfl, rfl⟩, hend, hnum⟩
theorem end_is {ts : List Tk} {p : Nat} (h : p = ts.length) (s : List UInt8) : isT ts p s = false := by
  rw [h]
  exact not_is_end s
theorem end_num {ts : List Tk} {p : Nat} (h : p = ts.length) : kindT ts p ≠ 1 := by
  unfold kindT
  rw [h, List.getElem?_eq_none (Nat.le_refl _)]
  simp
/-- What is known of statements that are parsed. -/
theorem parseT_of {ts : List Tk} {L : Nat} {l : List Nd} (hn : ts.length ≤ 4096) (h : parseT ts L = .ok l) : stmtsP ts L 8192 8192 [] 0 = .ok l ts.length ∧ deepL l 1 = none ∧ l.length ≤ ts.length := by
  unfold parseT at h
  cases hp : stmtsP ts L 8192 8192 [] 0 with
  | out => rw [hp] at h; cases h
  | bad q => rw [hp] at h; cases h
  | ok m q =>
    rw [hp] at h
    have hz := parse_sz (by omega) (by omega) hp
    have hl := len_szL m
    have h1 := (ok_stmts (us := ts) (ts := ts) (L := L) (L' := L) (n := 0) (goes_of (fun p _ => by rw [Nat.zero_add]) (fun s _ => end_is (by omega) s) (end_num (by omega))) 8192 8192 [] 0 m q (Nat.zero_le _) hp).1
    subst h1
    dsimp only at h
    cases hd : deepL m 1 with
    | some x => rw [hd] at h; cases h
    | none =>
      rw [hd] at h
      cases h
      exact ⟨rfl, hd, by omega⟩
theorem parseT_mk {ts : List Tk} {L : Nat} {l : List Nd} {q : Nat} (h : stmtsP ts L 8192 8192 [] 0 = .ok l q) (hd : deepL l 1 = none) : parseT ts L = .ok l := by
  unfold parseT
  rw [h]
  dsimp only
  rw [hd]
theorem stmtsP_stop {ts : List Tk} {L F g : Nat} {acc : List Nd} {q : Nat} (hg : 0 < g) (h : ts.length ≤ q) : stmtsP ts L F g acc q = .ok acc q := by
  obtain ⟨k, rfl⟩ : ∃ k, g = k + 1 := ⟨g - 1, by omega⟩
  rw [stmtsP, if_pos h]
theorem parse_goes {us ts : List Tk} {L L' : Nat} {l : List Nd} (hn : us.length ≤ 4096) (hk : ts.map kt = us.map kt) (h : parseT us L = .ok l) : ∃ m, parseT ts L' = .ok m ∧ sameL l m = true := by
  obtain ⟨h1, h2, h3⟩ := parseT_of hn h
  have hl : ts.length = us.length := by simpa using congrArg List.length hk
  have hG : Goes us ts 0 := goes_of (fun p _ => by rw [Nat.zero_add, hk]) (fun s _ => end_is (by omega) s) (end_num (by omega))
  obtain ⟨_, new, e, hlt, hg⟩ := ok_stmts (L' := L') hG 8192 8192 [] 0 l _ (Nat.zero_le _) h1
  rw [List.nil_append] at e
  subst e
  obtain ⟨new', hs, hh⟩ := hg (8192 - l.length) []
  rw [show l.length + (8192 - l.length) = 8192 by omega] at hh
  have h4 : stmtsP ts L' 8192 8192 [] 0 = .ok new' (0 + us.length) := hh.trans (stmtsP_stop (by omega) (by omega))
  exact ⟨new', parseT_mk h4 (same_deepL l _ 1 hs h2), hs⟩
theorem deepL_app : ∀ (a b : List Nd) (d : Nat), deepL a d = none → deepL b d = none → deepL (a ++ b) d = none
  | [], b, d, _, h => h
  | x :: a, b, d, h, hb => by
    rw [List.cons_append, deepL]
    rw [deepL] at h
    by_cases hd : 64 < d
    · rw [if_pos hd] at h; cases h
    · rw [if_neg hd] at h ⊢
      cases hx : deepN x d with
      | some z => rw [hx] at h; cases h
      | none =>
        rw [hx] at h
        exact deepL_app a b d h hb
theorem takeP_is {ts : List Tk} {L p a q : Nat} {s : List UInt8} (h : takeP ts L s p = .ok a q) : isT ts p s = true := by
  unfold takeP at h
  split at h
  · rename_i hB; exact hB
  · cases h
/-- A statement begins with a name, or a word that begins one. -/
theorem stmt_first {ts : List Tk} {L F f p : Nat} {x : Nd} {q : Nat} (h : stmtP ts L F f p = .ok x q) : (∃ w ∈ starts, isT ts p w = true) ∨ namedT ts p = true := by
  cases f with
  | zero => cases h
  | succ f =>
    have h : stmtO ts L (exprP ts L F) (stmtP ts L F f) F p = .ok x q := h
    unfold stmtO at h
    split at h
    · rename_i hB; exact .inl ⟨_, by decide, hB⟩
    · split at h
      · rename_i hB; exact .inl ⟨_, by decide, hB⟩
      · split at h
        · rename_i hB; exact .inl ⟨_, by decide, hB⟩
        · split at h
          · rename_i hB; exact .inl ⟨_, by decide, hB⟩
          · obtain ⟨s, r1, a1, h⟩ := bind_ok h
            unfold nameP at a1
            split at a1
            · rename_i hB; exact .inr hB
            · cases a1
theorem first_is {ts : List Tk} {p : Nat} (h : (∃ w ∈ starts, isT ts p w = true) ∨ namedT ts p = true) (s : List UInt8) (hs : s ∉ starts) : isT ts p s = false := by
  cases hB : isT ts p s
  · rfl
  · exfalso
    unfold isT at hB
    simp only [Bool.and_eq_true, Bool.or_eq_true, decide_eq_true_eq] at hB
    rcases h with ⟨w, hw, h⟩ | h
    · unfold isT at h
      simp only [Bool.and_eq_true, decide_eq_true_eq] at h
      exact hs (by rw [← hB.1, h.1]; exact hw)
    · unfold namedT at h
      simp only [Bool.and_eq_true, Bool.not_eq_true', decide_eq_true_eq] at h
      rcases hB.2 with h2 | h2
      · rw [h.1] at h2; cases h2
      · rw [hB.1, h2.2] at h; cases h.2
theorem first_num {ts : List Tk} {p : Nat} (h : (∃ w ∈ starts, isT ts p w = true) ∨ namedT ts p = true) : kindT ts p ≠ 1 := by
  rcases h with ⟨w, hw, h⟩ | h
  · unfold isT at h
    simp only [Bool.and_eq_true, Bool.or_eq_true, decide_eq_true_eq] at h
    rcases h.2 with h2 | h2
    · rw [h2]; decide
    · rw [h2.1]; decide
  · unfold namedT at h
    simp only [Bool.and_eq_true, decide_eq_true_eq] at h
    rw [h.1]; decide
theorem is_kt {ts us : List Tk} {p q : Nat} (h : (ts.map kt)[p]? = (us.map kt)[q]?) (s : List UInt8) : isT ts p s = isT us q s := by
  unfold isT
  rw [kind_kt, text_kt, kind_kt us, text_kt us, h]
theorem stmts_first {ts : List Tk} {L : Nat} {l : List Nd} {q : Nat} (h0 : 0 < ts.length) (h : stmtsP ts L 8192 8192 [] 0 = .ok l q) : (∃ w ∈ starts, isT ts 0 w = true) ∨ namedT ts 0 = true := by
  have h : stmtsP ts L 8192 (8191 + 1) [] 0 = .ok l q := h
  rw [stmtsP, if_neg (by omega)] at h
  obtain ⟨x, r, h1, _⟩ := bind_ok h
  exact stmt_first h1
theorem both_goes {a b c : List Tk} {L1 L2 L : Nat} {l m : List Nd} (hc : c.length ≤ 4096) (hk : c.map kt = a.map kt ++ b.map kt) (ha : parseT a L1 = .ok l) (hb : parseT b L2 = .ok m) :
    ∃ l' m', parseT c L = .ok (l' ++ m') ∧ sameL l l' = true ∧ sameL m m' = true := by
  have hl : c.length = a.length + b.length := by simpa using congrArg List.length hk
  obtain ⟨a1, a2, a3⟩ := parseT_of (by omega) ha
  obtain ⟨b1, b2, b3⟩ := parseT_of (by omega) hb
  have hb0 : (c.map kt)[a.length]? = (b.map kt)[0]? := by rw [hk, List.getElem?_append_right (by simp)]; simp
  have hGb : Goes b c a.length := goes_of (fun p hp => by rw [hk, List.getElem?_append_right (by simp)]; simp) (fun s _ => end_is (by omega) s) (end_num (by omega))
  have hGa : Goes a c 0 := by
    refine goes_of (fun p hp => by rw [Nat.zero_add, hk, List.getElem?_append_left (by simpa using hp)]) (fun s hs => ?_) ?_
    · rw [Nat.zero_add]
      by_cases h0 : b.length = 0
      · exact end_is (by omega) s
      · rw [is_kt hb0]
        exact first_is (stmts_first (by omega) b1) s hs
    · rw [Nat.zero_add]
      by_cases h0 : b.length = 0
      · exact end_num (by omega)
      · rw [kind_kt, hb0, ← kind_kt]
        exact first_num (stmts_first (by omega) b1)
  obtain ⟨_, n1, e1, hlt1, hg1⟩ := ok_stmts (L' := L) hGa 8192 8192 [] 0 l _ (Nat.zero_le _) a1
  obtain ⟨_, n2, e2, hlt2, hg2⟩ := ok_stmts (L' := L) hGb 8192 8192 [] 0 m _ (Nat.zero_le _) b1
  rw [List.nil_append] at e1 e2
  subst e1 e2
  obtain ⟨l', hs1, hh1⟩ := hg1 (8192 - l.length) []
  obtain ⟨m', hs2, hh2⟩ := hg2 (8192 - l.length - m.length) l'
  rw [show l.length + (8192 - l.length) = 8192 by omega, List.nil_append, show 0 + a.length = a.length by omega] at hh1
  rw [show m.length + (8192 - l.length - m.length) = 8192 - l.length by omega, Nat.add_zero] at hh2
  have hh3 : stmtsP c L 8192 8192 [] 0 = .ok (l' ++ m') (a.length + b.length) := hh1.trans (hh2.trans (stmtsP_stop (by omega) (by omega)))
  exact ⟨l', m', parseT_mk hh3 (deepL_app _ _ 1 (same_deepL l _ 1 hs1 a2) (same_deepL m _ 1 hs2 b2)), hs1, hs2⟩
theorem parseR_ok {s : List UInt8} {l : List Nd} (h : parseR s = .ok l) : ∃ ts, tokensL s = .ok ts ∧ parseT ts s.length = .ok l := by
  unfold parseR at h
  cases ht : tokensL s with
  | error f => rw [ht] at h; cases h
  | ok ts =>
    rw [ht] at h
    exact ⟨ts, rfl, h⟩
/-- TreeBlanks: what the texts that are put together are parsed to. -/
theorem blanks_law {s t : List UInt8} {l m : List Nd} (hs : s.length ≤ 8192) (ht : t.length ≤ 8192) (hl : parseR s = .ok l) (hm : parseR t = .ok m) :
    ∃ a, tokensL s = .ok a ∧ (∃ l', parseR (looseT (a.map fun t => t.2.1)) = .ok l' ∧ sameL l l' = true) ∧
      ((∃ c d, parseR (s ++ 10 :: t) = .ok (c ++ d) ∧ sameL c l = true ∧ sameL d m = true) ∨ ((∃ f, parseR (s ++ 10 :: t) = .error f) ∧ (1000 < a.length ∨ 1000 < s.length ∨ 1000 < t.length))) := by
  obtain ⟨a, ha, hpa⟩ := parseR_ok hl
  obtain ⟨b, hb, hpb⟩ := parseR_ok hm
  have hna := tokensL_len s a ha
  have hnb := tokensL_len t b hb
  refine ⟨a, ha, ?_, ?_⟩
  · obtain ⟨us, h1, h2⟩ := (sc_loose a (tokens_words ha)).all (by have := loose_len ha hs; omega) (by rw [List.length_map]; exact hna)
    obtain ⟨l', h3, h4⟩ := parse_goes (L' := (looseT (a.map fun t => t.2.1)).length) hna h2 hpa
    refine ⟨l', ?_, h4⟩
    unfold parseR
    rw [h1]
    exact h3
  · cases hc : tokensL (s ++ 10 :: t) with
    | ok c =>
      have hk := (sc_lines ha hb).tokens hc
      have hnc := tokensL_len _ _ hc
      obtain ⟨l', m', h1, h2, h3⟩ := both_goes (L := (s ++ 10 :: t).length) hnc hk hpa hpb
      refine .inl ⟨l', m', ?_, sameL_symm h2, sameL_symm h3⟩
      unfold parseR
      rw [hc]
      exact h1
    | error f =>
      refine .inr ⟨⟨_, by unfold parseR; rw [hc]⟩, ?_⟩
      by_cases h1 : 1000 < a.length ∨ 1000 < s.length ∨ 1000 < t.length
      · exact h1
      · exfalso
        have h2 := places_len t b 0 (tokensL_places t b hb) (Nat.zero_le _)
        obtain ⟨us, h3, _⟩ := (sc_lines ha hb).all (by simp; omega) (by rw [List.length_append, List.length_map, List.length_map]; omega)
        rw [hc] at h3
        cases h3
end Go.Proofs.YtpbkeamjdolpgaaGreatDoor
