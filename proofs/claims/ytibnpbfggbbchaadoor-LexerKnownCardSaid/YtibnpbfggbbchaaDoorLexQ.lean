/- Plain laws: words do not look beyond a blank; the tokens of two texts on two lines. -/
import Derived.Test.YtibnpbfggbbchaaDoorLexP
namespace Go.Proofs.YtibnpbfggbbchaaDoor
open Go.RowKit Go.Lib

theorem bl_cases {c : UInt8} (h : isBl c = true) : c = 32 ∨ c = 9 ∨ c = 10 ∨ c = 13 := by
  unfold isBl at h
  simpa [or_assoc] using h
theorem bl_small {c : UInt8} (h : isBl c = true) : c.toNat < 128 := by
  rcases bl_cases h with rfl | rfl | rfl | rfl <;> decide
theorem bl_name {c : UInt8} (h : isBl c = true) (j : Nat) : isNm j c.toNat = false := by
  have h1 : ∀ c : UInt8, isBl c = true → (c.toNat == 95) = false ∧ Lib.isLetterU (c.toNat : Int) = false ∧ Lib.isDigitU (c.toNat : Int) = false := by
    intro c hc
    rcases bl_cases hc with rfl | rfl | rfl | rfl <;> exact ⟨by decide, by kernel_rfl, by kernel_rfl⟩
  obtain ⟨a, b, d⟩ := h1 c h
  unfold isNm
  rw [a, b, d]
  simp
theorem bl_db {c : UInt8} (h : isBl c = true) : isDb c = false := by
  rcases bl_cases h with rfl | rfl | rfl | rfl <;> decide

theorem dec_app (l : List UInt8) (c : UInt8) (r : List UInt8) (hl : l ≠ []) (hc : c.toNat < 128) : dec (l ++ c :: r) = dec l := by
  have h2 : ¬ c.toNat / 64 = 2 := by omega
  unfold dec Lib.decodeN bt
  match l, hl with
  | [a], _ => simp [h2]
  | [a, b], _ => simp [h2]
  | [a, b, d], _ => simp [h2]
  | a :: b :: d :: e :: q, _ =>
    have e1 : (a :: b :: d :: e :: q ++ c :: r).length = q.length + 4 + (r.length + 1) := by simp; omega
    have e2 : (a :: b :: d :: e :: q).length = q.length + 4 := by simp
    rw [e1, e2]
    have g1 : 1 < q.length + 4 + (r.length + 1) := by omega
    have g2 : 2 < q.length + 4 + (r.length + 1) := by omega
    have g3 : 3 < q.length + 4 + (r.length + 1) := by omega
    have g4 : 1 < q.length + 4 := by omega
    have g5 : 2 < q.length + 4 := by omega
    have g6 : 3 < q.length + 4 := by omega
    simp [g1, g2, g3, g4, g5, g6]
theorem dec_small (c : UInt8) (r : List UInt8) (hc : c.toNat < 128) : dec (c :: r) = (c.toNat, 1) := by
  rcases dec_shape (c :: r) with ⟨_, h⟩ | ⟨h, _⟩
  · exact h
  · have : bt (c :: r) 0 = c.toNat := rfl
    omega
theorem runL_app (p : Nat → Nat → Bool) (c : UInt8) (r : List UInt8) (hc : c.toNat < 128) (hp : ∀ j, p j c.toNat = false) : ∀ (f i : Nat) (l : List UInt8), l.length < f → runL p f i (l ++ c :: r) = runL p f i l
  | 0, i, l, h => by omega
  | f + 1, i, [], h => by
    rw [List.nil_append, runL_nil, runL, if_neg (by simp)]
    have hb : badL (c :: r) = false := by unfold badL; rw [dec_small c r hc]; simp; omega
    rw [hb, if_neg (by simp), dec_small c r hc]
    simp only
    rw [hp, if_neg (by simp)]
  | f + 1, i, a :: l, h => by
    have hd := dec_app (a :: l) c r (by simp) hc
    have h1 := dec_le (a :: l) (by simp)
    have h2 := dec_ge1 (a :: l)
    have hb : badL (a :: l ++ c :: r) = badL (a :: l) := by unfold badL; rw [hd]
    rw [runL, if_neg (show ¬ (a :: l ++ c :: r) = [] by simp), runL, if_neg (show ¬ (a :: l) = [] by simp), hb, hd]
    have hdr : (a :: l ++ c :: r).drop (dec (a :: l)).2 = (a :: l).drop (dec (a :: l)).2 ++ c :: r := List.drop_append_of_le_length h1
    rw [hdr, runL_app p c r hc hp f _ _ (by rw [List.length_drop]; omega)]
theorem nameL_app (l : List UInt8) (c : UInt8) (r : List UInt8) (hc : isBl c = true) : nameL (l ++ c :: r) = nameL l := by
  unfold nameL
  rw [runL_app isNm c r (bl_small hc) (bl_name hc) _ _ _ (by simp only [List.length_append, List.length_cons]; omega)]
  exact runL_fuel _ _ _ _ _ (by simp only [List.length_append, List.length_cons]; omega) (Nat.le_refl _)
theorem digs_app (c : UInt8) (r : List UInt8) (hc : isBl c = true) : ∀ l : List UInt8, digs (l ++ c :: r) = digs l
  | [] => by unfold digs; simp [bl_db hc]
  | a :: l => by
    have ih := digs_app c r hc l
    unfold digs at ih ⊢
    rw [List.cons_append, List.takeWhile_cons, List.takeWhile_cons]
    cases isDb a
    · rfl
    · simp only [if_true, List.length_cons]
      rw [ih]
theorem numL_app (l : List UInt8) (c : UInt8) (r : List UInt8) (hc : isBl c = true) : numL (l ++ c :: r) = numL l := by
  have h1 := digs_le l
  unfold numL
  rw [digs_app c r hc, List.drop_append_of_le_length h1]
  by_cases h0 : digs l = 0
  · rw [if_pos h0, if_pos h0]
  · rw [if_neg h0, if_neg h0]
    cases hd : l.drop (digs l) with
    | nil =>
      have hn : ¬ (([] : List UInt8) ++ c :: r).head? = some 46 := by
        simp
        rcases bl_cases hc with rfl | rfl | rfl | rfl <;> decide
      rw [if_neg (fun h => hn h.1), if_neg (fun h => by cases h.1)]
    | cons x y =>
      have hlen : digs l + 1 ≤ l.length := by
        have := congrArg List.length hd
        rw [List.length_drop] at this
        simp at this
        omega
      rw [List.drop_append_of_le_length hlen, digs_app c r hc]
      rfl
theorem pre_app (l : List UInt8) (c : UInt8) (r : List UInt8) (hl : l ≠ []) (t : List UInt8) (ht : t.length ≤ 2) (hc : t[1]? ≠ some c) : Lib.hasPrefix (l ++ c :: r) t = Lib.hasPrefix l t := by
  unfold Lib.hasPrefix
  match l, hl, t, ht, hc with
  | a :: l, _, [], _, _ => rfl
  | a :: l, _, [x], _, _ => simp [List.isPrefixOf]
  | [a], _, [x, y], _, hc =>
    have : ¬ y = c := fun h => hc (by simp [h])
    simp [List.isPrefixOf, this]
  | a :: b :: l, _, [x, y], _, _ => simp [List.isPrefixOf]
theorem signs_two (c : UInt8) (h : isBl c = true) : ∀ t ∈ signs, t.length ≤ 2 ∧ t[1]? ≠ some c := by
  rcases bl_cases h with rfl | rfl | rfl | rfl <;> decide
theorem signIn_app (l : List UInt8) (c : UInt8) (r : List UInt8) (hl : l ≠ []) : ∀ ts : List (List UInt8), (∀ t ∈ ts, t.length ≤ 2 ∧ t[1]? ≠ some c) → signIn (l ++ c :: r) ts = signIn l ts
  | [], _ => rfl
  | t :: ts, h => by
    have h1 := h t (List.mem_cons_self ..)
    rw [signIn, signIn, pre_app l c r hl t h1.1 h1.2, signIn_app l c r hl ts (fun u hu => h u (List.mem_cons_of_mem _ hu))]
theorem wordL_app (l : List UInt8) (c : UInt8) (r : List UInt8) (hl : l ≠ []) (hc : isBl c = true) : wordL (l ++ c :: r) = wordL l := by
  unfold wordL signL
  rw [nameL_app l c r hc, numL_app l c r hc, signIn_app l c r hl signs (signs_two c hc)]

/-! ### Two lines -/
theorem skip_app10 (r : List UInt8) : ∀ (b : Bool) (l : List UInt8), skipB b (l ++ 10 :: r) = if skipB b l = l.length then l.length + (1 + skipB false r) else skipB b l
  | b, [] => by cases b <;> simp [skipB, isBl]
  | true, c :: l => by
    have h1 := skip_app10 r true l
    have h2 := skip_app10 r false l
    rw [List.cons_append, skipB, skipB]
    by_cases h : c = 10
    · rw [if_pos h, if_pos h, h2]
      by_cases h3 : skipB false l = l.length
      · rw [if_pos h3, if_pos (by simp only [List.length_cons]; omega)]; simp only [List.length_cons]; omega
      · rw [if_neg h3, if_neg (by simp only [List.length_cons]; omega)]
    · rw [if_neg h, if_neg h, h1]
      by_cases h3 : skipB true l = l.length
      · rw [if_pos h3, if_pos (by simp only [List.length_cons]; omega)]; simp only [List.length_cons]; omega
      · rw [if_neg h3, if_neg (by simp only [List.length_cons]; omega)]
  | false, c :: l => by
    have h1 := skip_app10 r true l
    have h2 := skip_app10 r false l
    have e1 : ∀ q, skipB false (c :: q) = if isBl c then 1 + skipB false q else if c = 47 ∧ q.head? = some 47 then 1 + skipB true q else 0 := fun q => by rw [skipB]
    rw [List.cons_append, e1, e1]
    by_cases hb : isBl c = true
    · rw [if_pos hb, if_pos hb, h2]
      by_cases h3 : skipB false l = l.length
      · rw [if_pos h3, if_pos (by simp only [List.length_cons]; omega)]; simp only [List.length_cons]; omega
      · rw [if_neg h3, if_neg (by simp only [List.length_cons]; omega)]
    · rw [if_neg hb, if_neg hb]
      by_cases h : c = 47 ∧ l.head? = some 47
      · have hh : (l ++ 10 :: r).head? = some 47 := by
          cases l with
          | nil => simp at h
          | cons d l => simpa using h.2
        rw [if_pos h, if_pos ⟨h.1, hh⟩, h1]
        by_cases h3 : skipB true l = l.length
        · rw [if_pos h3, if_pos (by simp only [List.length_cons]; omega)]; simp only [List.length_cons]; omega
        · rw [if_neg h3, if_neg (by simp only [List.length_cons]; omega)]
      · have hh : ¬ (c = 47 ∧ (l ++ 10 :: r).head? = some 47) := by
          rintro ⟨h3, h4⟩
          cases l with
          | nil => simp at h4
          | cons d l => exact h ⟨h3, by simpa using h4⟩
        rw [if_neg h, if_neg hh, if_neg (by simp)]

theorem toksL_fuel : ∀ (f g n p : Nat) (l : List UInt8), l.length ≤ f → l.length ≤ g → toksL f n p l = toksL g n p l
  | 0, g, n, p, l, hf, _ => by
    have : l = [] := List.eq_nil_of_length_eq_zero (by omega)
    subst this
    cases g <;> simp [toksL]
  | f + 1, 0, n, p, l, _, hg => by
    have : l = [] := List.eq_nil_of_length_eq_zero (by omega)
    subst this
    simp [toksL]
  | f + 1, g + 1, n, p, l, hf, hg => by
    by_cases hl : l = []
    · rw [toksL, toksL, if_pos hl, if_pos hl]
    · rw [toksL_step _ _ _ _ hl, toksL_step _ _ _ _ hl]
      by_cases h0 : (wordL l).2 = 0
      · rw [if_pos h0, if_pos h0]
      · rw [if_neg h0, if_neg h0]
        rw [toksL_fuel f g _ _ (l.drop _) (by rw [List.length_drop]; omega) (by rw [List.length_drop]; omega)]
def shift (d : Nat) (t : Tk) : Tk := (t.1, t.2.1, t.2.2 + d)
theorem toksL_shift (d : Nat) : ∀ (f n m p : Nat) (l : List UInt8) (ts : List Tk), toksL f n p l = .ok ts → m + ts.length ≤ 4096 → toksL f m (p + d) l = .ok (ts.map (shift d))
  | 0, n, m, p, l, ts, h, _ => by
    simp only [toksL, Except.ok.injEq] at h ⊢
    subst h
    rfl
  | f + 1, n, m, p, l, ts, h, hm => by
    by_cases hl : l = []
    · rw [toksL, if_pos hl] at h ⊢
      cases h
      rfl
    · rw [toksL_step _ _ _ _ hl] at h ⊢
      by_cases h0 : (wordL l).2 = 0
      · rw [if_pos h0] at h; cases h
      · rw [if_neg h0] at h ⊢
        by_cases h1 : n = 4096
        · rw [if_pos h1] at h; cases h
        · rw [if_neg h1] at h
          obtain ⟨X, hX⟩ : ∃ X, toksL f (n + 1) (p + (wordL l).2 + skipL (l.drop (wordL l).2)) (l.drop ((wordL l).2 + skipL (l.drop (wordL l).2))) = X := ⟨_, rfl⟩
          rw [hX] at h
          cases X with
          | error x => cases h
          | ok us =>
            cases h
            simp only [List.length_cons] at hm
            have ih := toksL_shift d f (n + 1) (m + 1) _ _ us hX (by omega)
            rw [if_neg (by omega), show p + d + (wordL l).2 + skipL (l.drop (wordL l).2) = p + (wordL l).2 + skipL (l.drop (wordL l).2) + d by omega, ih]
            rfl
/-- Blanks, then tokens. -/
def scanL (f n p : Nat) (l : List UInt8) : Except Flt (List Tk) := toksL f n (p + skipL l) (l.drop (skipL l))
theorem scan_app (r : List UInt8) (bs : List Tk) (g : Nat) (hb : ∀ F m p, r.length ≤ F → m + bs.length ≤ 4096 → scanL F m p r = .ok (bs.map (shift p))) :
    ∀ (f n p : Nat) (l : List UInt8) (ts : List Tk), scanL f n p l = .ok ts → l.length ≤ f → n + ts.length + bs.length ≤ 4096 → ∀ F, l.length + 1 + r.length ≤ F → scanL F n p (l ++ 10 :: r) = .ok (ts ++ bs.map (shift (p + l.length + 1)))
  | f, n, p, l, ts, h, hf, hn, F, hF => by
    have hsk : skipL l ≤ l.length := skipB_le _ _
    have hap : skipL (l ++ 10 :: r) = if skipL l = l.length then l.length + (1 + skipL r) else skipL l := skip_app10 r false l
    unfold scanL at h ⊢
    by_cases hq : skipL l = l.length
    · rw [if_pos hq] at hap
      rw [hq, List.drop_eq_nil_of_le (Nat.le_refl _)] at h
      have hts : ts = [] := by
        cases f <;> simp [toksL] at h <;> exact h
      subst hts
      rw [hap, List.drop_append, List.drop_eq_nil_of_le (by omega), show l.length + (1 + skipL r) - l.length = skipL r + 1 by omega, List.drop_succ_cons, List.nil_append, List.nil_append]
      have := hb F n (p + l.length + 1) (by omega) (by simpa using hn)
      unfold scanL at this
      rw [← this]
      congr 1
      omega
    · rw [if_neg hq] at hap
      rw [hap, List.drop_append_of_le_length hsk]
      obtain ⟨m, hm⟩ : ∃ m, l.drop (skipL l) = m := ⟨_, rfl⟩
      have hml : m.length = l.length - skipL l := by rw [← hm, List.length_drop]
      have hmne : m ≠ [] := by intro h0; rw [h0] at hml; simp at hml; omega
      rw [hm] at h ⊢
      cases f with
      | zero => omega
      | succ f =>
        cases F with
        | zero => omega
        | succ F =>
          rw [toksL_step _ _ _ _ hmne] at h
          rw [toksL_step _ _ _ _ (by simp), wordL_app m 10 r hmne rfl]
          have hw := wordL_le m
          by_cases h0 : (wordL m).2 = 0
          · rw [if_pos h0] at h; cases h
          · rw [if_neg h0] at h ⊢
            by_cases h1 : n = 4096
            · rw [if_pos h1] at h; cases h
            · rw [if_neg h1] at h ⊢
              obtain ⟨X, hX⟩ : ∃ X, toksL f (n + 1) (p + skipL l + (wordL m).2 + skipL (m.drop (wordL m).2)) (m.drop ((wordL m).2 + skipL (m.drop (wordL m).2))) = X := ⟨_, rfl⟩
              rw [hX] at h
              cases X with
              | error x => cases h
              | ok us =>
                cases h
                simp only [List.length_cons] at hn
                have ih := scan_app r bs g hb f (n + 1) (p + skipL l + (wordL m).2) (m.drop (wordL m).2) us (by unfold scanL; rw [List.drop_drop]; exact hX) (by rw [List.length_drop]; omega) (by omega) F (by rw [List.length_drop]; omega)
                unfold scanL at ih
                rw [List.drop_append_of_le_length hw, ← List.drop_drop, List.drop_append_of_le_length hw, ih, List.take_append_of_le_length hw]
                have e : p + skipL l + (wordL m).2 + (m.drop (wordL m).2).length + 1 = p + l.length + 1 := by rw [List.length_drop]; omega
                rw [e]
                rfl
theorem tokens_lines (s t : List UInt8) (a b : List Tk) (ha : tokensL s = .ok a) (hb : tokensL t = .ok b) (hl : s.length + t.length < 65536) (hn : a.length + b.length ≤ 4096) :
    tokensL (s ++ 10 :: t) = .ok (a ++ b.map (shift (s.length + 1))) := by
  unfold tokensL at ha hb ⊢
  rw [if_neg (by omega)] at ha hb
  rw [if_neg (by simp; omega)]
  have hb2 : ∀ F m p, t.length ≤ F → m + b.length ≤ 4096 → scanL F m p t = .ok (b.map (shift p)) := by
    intro F m p hF hm
    unfold scanL
    have h1 := toksL_shift p t.length 0 m (skipL t) (t.drop (skipL t)) b hb hm
    rw [toksL_fuel F t.length _ _ _ (by rw [List.length_drop]; omega) (by rw [List.length_drop]; omega), Nat.add_comm p, h1]
  have h := scan_app t b 0 hb2 s.length 0 0 s a (by unfold scanL; rw [Nat.zero_add]; exact ha) (Nat.le_refl _) (by omega) (s ++ 10 :: t).length (by simp; omega)
  unfold scanL at h
  rw [Nat.zero_add, Nat.zero_add] at h
  exact h
theorem PlOk_at (s : List UInt8) : ∀ (ts : List Tk) (e i : Nat) (u : Tk), PlOk s e ts → ts[i]? = some u → u.2.2 + u.2.1.length ≤ s.length
  | [], e, i, u, _, h => by simp at h
  | t :: ts, e, 0, u, hp, h => by
    simp at h
    subst h
    exact hp.2.2.2.1
  | t :: ts, e, i + 1, u, hp, h => PlOk_at s ts _ i u hp.2.2.2.2.2 (by simpa using h)
theorem tokensL_at (s : List UInt8) (ts : List Tk) (h : tokensL s = .ok ts) (i : Nat) (u : Tk) (hu : ts[i]? = some u) : u.2.2 + u.2.1.length ≤ s.length :=
  PlOk_at s ts 0 i u (tokensL_places s ts h) hu
end Go.Proofs.YtibnpbfggbbchaaDoor
