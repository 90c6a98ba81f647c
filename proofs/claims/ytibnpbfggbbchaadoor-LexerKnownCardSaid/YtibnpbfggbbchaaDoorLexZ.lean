/- Plain laws: what is put together is read again; a text's tokens are tokens. -/
import Derived.Test.YtibnpbfggbbchaaDoorLexY
import Derived.Lib.SpaceUEq
namespace Go.Proofs.YtibnpbfggbbchaaDoor
open Go.RowKit Go.Lib

/-! ### A token cut out of a text is that token -/
theorem decN_cut (n m b0 b1 b2 b3 : Nat) (c1 c2 c3 : Nat) (h : (decodeN n b0 b1 b2 b3).2 ≤ m) (hb : decodeN n b0 b1 b2 b3 ≠ (65533, 1)) (hn : m ≤ n)
    (e1 : 1 < m → c1 = b1) (e2 : 2 < m → c2 = b2) (e3 : 3 < m → c3 = b3) : decodeN m b0 c1 c2 c3 = decodeN n b0 b1 b2 b3 := by
  unfold decodeN at h hb ⊢
  by_cases k0 : b0 < 128
  · rw [if_pos k0, if_pos k0]
  · rw [if_neg k0] at h hb ⊢
    rw [if_neg k0]
    by_cases k1 : b0 / 32 = 6 ∧ (1 < n ∧ b1 / 64 = 2)
    · rw [if_pos k1] at h hb ⊢
      by_cases v : b0 % 32 * 64 + b1 % 64 ≥ 128
      · rw [if_pos v] at h ⊢
        have h2 : 2 ≤ m := h
        have E1 := e1 (by omega)
        subst E1
        rw [if_pos ⟨k1.1, by omega, k1.2.2⟩, if_pos v]
      · rw [if_neg v] at hb
        exact absurd rfl hb
    · rw [if_neg k1] at h hb ⊢
      rw [if_neg (fun q => k1 ⟨q.1, by omega, by rw [← e1 q.2.1]; exact q.2.2⟩)]
      by_cases k2 : b0 / 16 = 14 ∧ (1 < n ∧ b1 / 64 = 2) ∧ (2 < n ∧ b2 / 64 = 2)
      · rw [if_pos k2] at h hb ⊢
        by_cases v : b0 % 16 * 4096 + b1 % 64 * 64 + b2 % 64 ≥ 2048 ∧ (b0 % 16 * 4096 + b1 % 64 * 64 + b2 % 64 < 55296 ∨ (57344 ≤ b0 % 16 * 4096 + b1 % 64 * 64 + b2 % 64 ∧ b0 % 16 * 4096 + b1 % 64 * 64 + b2 % 64 ≤ 1114111))
        · rw [if_pos v] at h ⊢
          have h3 : 3 ≤ m := h
          have E1 := e1 (by omega)
          have E2 := e2 (by omega)
          subst E1 E2
          rw [if_pos ⟨k2.1, ⟨by omega, k2.2.1.2⟩, by omega, k2.2.2.2⟩, if_pos v]
        · rw [if_neg v] at hb
          exact absurd rfl hb
      · rw [if_neg k2] at h hb ⊢
        rw [if_neg (fun q => k2 ⟨q.1, ⟨by omega, by rw [← e1 q.2.1.1]; exact q.2.1.2⟩, by omega, by rw [← e2 q.2.2.1]; exact q.2.2.2⟩)]
        by_cases k3 : b0 / 8 = 30 ∧ (1 < n ∧ b1 / 64 = 2) ∧ (2 < n ∧ b2 / 64 = 2) ∧ (3 < n ∧ b3 / 64 = 2)
        · rw [if_pos k3] at h hb ⊢
          by_cases v : b0 % 8 * 262144 + b1 % 64 * 4096 + b2 % 64 * 64 + b3 % 64 ≥ 65536 ∧ (b0 % 8 * 262144 + b1 % 64 * 4096 + b2 % 64 * 64 + b3 % 64 < 55296 ∨ (57344 ≤ b0 % 8 * 262144 + b1 % 64 * 4096 + b2 % 64 * 64 + b3 % 64 ∧ b0 % 8 * 262144 + b1 % 64 * 4096 + b2 % 64 * 64 + b3 % 64 ≤ 1114111))
          · rw [if_pos v] at h ⊢
            have h4 : 4 ≤ m := h
            have E1 := e1 (by omega)
            have E2 := e2 (by omega)
            have E3 := e3 (by omega)
            subst E1 E2 E3
            rw [if_pos ⟨k3.1, ⟨by omega, k3.2.1.2⟩, ⟨by omega, k3.2.2.1.2⟩, by omega, k3.2.2.2.2⟩, if_pos v]
          · rw [if_neg v] at hb
            exact absurd rfl hb
        · rw [if_neg k3] at hb
          exact absurd rfl hb
theorem bt_take (l : List UInt8) (m k : Nat) (h : k < m) : bt (l.take m) k = bt l k := by
  unfold bt
  rw [List.getElem?_take, if_pos h]
theorem dec_take (l : List UInt8) (m : Nat) (hb : badL l = false) (h : (dec l).2 ≤ m) : dec (l.take m) = dec l := by
  by_cases hm : l.length ≤ m
  · rw [List.take_of_length_le hm]
  · have h1 := dec_ge1 l
    have hne : dec l ≠ (65533, 1) := by
      intro h2
      unfold badL at hb
      rw [h2] at hb
      simp at hb
    have hlen : (l.take m).length = m := by rw [List.length_take]; omega
    unfold dec at h hne ⊢
    rw [hlen, bt_take l m 0 (by unfold dec at h1; omega)]
    exact decN_cut l.length m _ _ _ _ _ _ _ h hne (by omega) (fun q => bt_take l m 1 q) (fun q => bt_take l m 2 q) (fun q => bt_take l m 3 q)
theorem bad_take (l : List UInt8) (m : Nat) (hb : badL l = false) (h : (dec l).2 ≤ m) : badL (l.take m) = false := by
  unfold badL at hb ⊢
  rw [dec_take l m (by unfold badL; exact hb) h]
  exact hb
/-- The run cut out is a run, to its end. -/
theorem runL_take (p : Nat → Nat → Bool) : ∀ (f g i : Nat) (l : List UInt8), l.length ≤ f → runL p f i l ≤ g → runL p g i (l.take (runL p f i l)) = runL p f i l
  | 0, g, i, l, hf, _ => by
    have : l = [] := List.eq_nil_of_length_eq_zero (by omega)
    subst this
    rw [runL_nil, List.take_nil, runL_nil]
  | f + 1, g, i, l, hf, hg => by
    by_cases hl : l = []
    · subst hl
      rw [runL_nil, List.take_nil, runL_nil]
    · have e : runL p (f + 1) i l = if badL l then 0 else if p i (dec l).1 then (dec l).2 + runL p f (i + (dec l).2) (l.drop (dec l).2) else 0 := by
        rw [runL, if_neg hl]
      by_cases hb : badL l = true
      · rw [if_pos hb] at e
        rw [e, List.take_zero, runL_nil]
      · rw [if_neg hb] at e
        by_cases hp : p i (dec l).1 = true
        · rw [if_pos hp] at e
          have h1 := dec_ge1 l
          have h2 := dec_le l hl
          obtain ⟨K, hK⟩ : ∃ K, runL p f (i + (dec l).2) (l.drop (dec l).2) = K := ⟨_, rfl⟩
          have ih := fun g hg => runL_take p f g (i + (dec l).2) (l.drop (dec l).2) (by rw [List.length_drop]; omega) hg
          rw [hK] at e ih
          rw [e] at hg ⊢
          obtain ⟨g', rfl⟩ : ∃ g', g = g' + 1 := ⟨g - 1, by omega⟩
          have hb2 : badL l = false := by simpa using hb
          have ht : l.take ((dec l).2 + K) ≠ [] := by
            intro h
            have h3 := congrArg List.length h
            rw [List.length_take] at h3
            simp only [List.length_nil] at h3
            have : 0 < l.length := List.length_pos_iff.2 hl
            omega
          rw [runL, if_neg ht, bad_take l _ hb2 (by omega), dec_take l _ hb2 (by omega), if_neg (by simp), if_pos hp]
          have hd : (l.take ((dec l).2 + K)).drop (dec l).2 = (l.drop (dec l).2).take K := by
            rw [List.drop_take]
            congr 1
            omega
          rw [hd, ih g' (by omega)]
        · rw [if_neg hp] at e
          rw [e, List.take_zero, runL_nil]
theorem nameL_take (l : List UInt8) : nameL (l.take (nameL l)) = nameL l := by
  unfold nameL
  have hle := runL_le isNm l.length 0 l
  have h := runL_take isNm l.length (l.take (runL isNm l.length 0 l)).length 0 l (Nat.le_refl _) (by rw [List.length_take]; omega)
  exact h
theorem nameL_first (l : List UInt8) (h : bt l 0 < 128) (hl : l ≠ []) : (nameL l = 0) ↔ isNm 0 (bt l 0) = false := by
  have hd : dec l = (bt l 0, 1) := by
    rcases dec_shape l with ⟨_, e⟩ | ⟨k, _⟩
    · exact e
    · omega
  have hb : badL l = false := by
    unfold badL
    rw [hd]
    have : (bt l 0 == 65533) = false := beq_eq_false_iff_ne.2 (by omega)
    simp [this]
  obtain ⟨n, hn⟩ : ∃ n, l.length = n + 1 := ⟨l.length - 1, by have := List.length_pos_iff.2 hl; omega⟩
  unfold nameL
  rw [hn, runL, if_neg hl, hb, hd, if_neg (by simp)]
  dsimp only
  cases isNm 0 (bt l 0)
  · simp
  · simp
theorem nameL_zero_take (l : List UInt8) (m : Nat) (h : bt l 0 < 128) (hz : nameL l = 0) : nameL (l.take m) = 0 := by
  by_cases hl : l.take m = []
  · rw [hl]
    exact runL_nil _ _ _
  · have hm : 0 < m := by
      rcases Nat.eq_zero_or_pos m with h0 | h0
      · subst h0; exact absurd (List.take_zero) hl
      · exact h0
    have hl2 : l ≠ [] := fun h2 => hl (by rw [h2, List.take_nil])
    have h0 := bt_take l m 0 hm
    rw [nameL_first _ (by rw [h0]; exact h) hl, h0]
    exact (nameL_first l h hl2).1 hz
theorem digs_take : ∀ (l : List UInt8) (m : Nat), digs (l.take m) = min m (digs l)
  | [], m => by simp [digs]
  | c :: r, 0 => by simp [digs]
  | c :: r, m + 1 => by
    have ih := digs_take r m
    unfold digs at ih ⊢
    rw [List.take_succ_cons, List.takeWhile_cons, List.takeWhile_cons]
    cases isDb c
    · simp
    · simp only [if_true, List.length_cons, ih]
      omega
theorem numL_take (l : List UInt8) : numL (l.take (numL l)) = numL l := by
  by_cases h0 : digs l = 0
  · have e : numL l = 0 := by unfold numL; rw [if_pos h0]
    rw [e, List.take_zero]
    rfl
  · by_cases h1 : (l.drop (digs l)).head? = some 46 ∧ 0 < digs (l.drop (digs l + 1))
    · have e : numL l = digs l + (1 + digs (l.drop (digs l + 1))) := by unfold numL; rw [if_neg h0, if_pos h1]
      rw [e]
      obtain ⟨d, hd⟩ : ∃ d, digs l = d := ⟨_, rfl⟩
      rw [hd] at h1 h0 ⊢
      obtain ⟨k, hk⟩ : ∃ k, digs (l.drop (d + 1)) = k := ⟨_, rfl⟩
      rw [hk] at h1 ⊢
      have e1 : digs (l.take (d + (1 + k))) = d := by rw [digs_take, hd]; omega
      have e2 : (l.take (d + (1 + k))).drop (d + 1) = (l.drop (d + 1)).take k := by
        rw [List.drop_take]
        congr 1
        omega
      have e3 : digs ((l.take (d + (1 + k))).drop (d + 1)) = k := by rw [e2, digs_take, hk]; omega
      have e4 : ((l.take (d + (1 + k))).drop d).head? = some 46 := by
        rw [List.drop_take, show d + (1 + k) - d = k + 1 by omega]
        have h2 := h1.1
        cases hx : l.drop d with
        | nil => rw [hx] at h2; simp at h2
        | cons a b => rw [hx] at h2; simpa using h2
      unfold numL
      rw [e1, if_neg h0, e3, if_pos ⟨e4, h1.2⟩]
    · have e : numL l = digs l := by unfold numL; rw [if_neg h0, if_neg h1]
      rw [e]
      have e1 : digs (l.take (digs l)) = digs l := by rw [digs_take]; omega
      unfold numL
      rw [e1, if_neg h0, if_neg]
      rintro ⟨h2, _⟩
      rw [List.drop_take, Nat.sub_self, List.take_zero] at h2
      simp at h2
theorem signIn_some (l : List UInt8) : ∀ ts : List (List UInt8), 0 < signIn l ts → ∃ t ∈ ts, Lib.hasPrefix l t = true ∧ signIn l ts = t.length
  | [], h => by simp [signIn] at h
  | t :: r, h => by
    unfold signIn at h ⊢
    by_cases hp : Lib.hasPrefix l t = true
    · rw [if_pos hp] at h ⊢
      exact ⟨t, List.mem_cons_self, hp, rfl⟩
    · rw [if_neg hp] at h ⊢
      obtain ⟨u, h1, h2, h3⟩ := signIn_some l r h
      exact ⟨u, List.mem_cons_of_mem _ h1, h2, h3⟩
theorem signs_self : ∀ t ∈ signs, signL t = t.length ∧ bt t 0 < 128 ∧ t ≠ [] := by decide
theorem take_prefix (l t : List UInt8) (h : Lib.hasPrefix l t = true) : l.take t.length = t :=
  (List.prefix_iff_eq_take.1 (List.isPrefixOf_iff_prefix.1 h)).symm
theorem signL_take (l : List UInt8) (h : 0 < signL l) : signL (l.take (signL l)) = signL l ∧ bt l 0 < 128 := by
  obtain ⟨t, h1, h2, h3⟩ := signIn_some l signs h
  have hs := signs_self t h1
  have e : l.take (signL l) = t := by
    have : signL l = t.length := h3
    rw [this]
    exact take_prefix l t h2
  refine ⟨?_, ?_⟩
  · rw [e, hs.1]
    exact h3.symm
  · rw [← bt_take l (signL l) 0 h, e]
    exact hs.2.1
theorem digs_first (l : List UInt8) (h : 0 < digs l) : bt l 0 < 128 := by
  unfold digs at h
  cases l with
  | nil => simp at h
  | cons c r =>
    rw [List.takeWhile_cons] at h
    cases hc : isDb c
    · rw [hc] at h; simp at h
    · unfold isDb at hc
      simp only [Bool.and_eq_true, decide_eq_true_eq] at hc
      simp [bt]
      omega
theorem numL_pos (l : List UInt8) (h : 0 < numL l) : 0 < digs l := by
  unfold numL at h
  by_cases h0 : digs l = 0
  · rw [if_pos h0] at h; omega
  · omega
/-- A token cut out of a text is that token. -/
theorem wordL_take (l : List UInt8) (h : 0 < (wordL l).2) : wordL (l.take (wordL l).2) = wordL l := by
  by_cases h1 : 0 < nameL l
  · have e : wordL l = (0, nameL l) := by unfold wordL; rw [if_pos h1]
    rw [e]
    unfold wordL
    rw [nameL_take, if_pos h1]
  · by_cases h2 : 0 < numL l
    · have e : wordL l = (1, numL l) := by unfold wordL; rw [if_neg h1, if_pos h2]
      rw [e]
      unfold wordL
      rw [nameL_zero_take l _ (digs_first l (numL_pos l h2)) (by omega), if_neg (by omega), numL_take, if_pos h2]
    · by_cases h3 : 0 < signL l
      · have e : wordL l = (2, signL l) := by unfold wordL; rw [if_neg h1, if_neg h2, if_pos h3]
        have hs := signL_take l h3
        rw [e]
        unfold wordL
        have hd : digs l = 0 := by
          rcases Nat.eq_zero_or_pos (digs l) with h4 | h4
          · exact h4
          · exfalso
            apply h2
            unfold numL
            rw [if_neg (by omega)]
            split <;> omega
        have hn : numL (l.take (signL l)) = 0 := by
          unfold numL
          rw [if_pos (by rw [digs_take, hd]; omega)]
        rw [nameL_zero_take l _ hs.2 (by omega), if_neg (by omega), hn, if_neg (by omega), hs.1, if_pos h3]
      · have e : wordL l = (0, 0) := by unfold wordL; rw [if_neg h1, if_neg h2, if_neg h3]
        rw [e] at h
        exact absurd h (by decide)
theorem skip_cons (c : UInt8) (r : List UInt8) : skipB false (c :: r) = if isBl c then 1 + skipB false r else if c = 47 ∧ r.head? = some 47 then 1 + skipB true r else 0 := by rw [skipB]
theorem skip_zero (c : UInt8) (r : List UInt8) : skipB false (c :: r) = 0 ↔ isBl c = false ∧ ¬ (c = 47 ∧ r.head? = some 47) := by
  rw [skip_cons]
  cases hb : isBl c
  · by_cases h : c = 47 ∧ r.head? = some 47
    · rw [if_neg (by simp), if_pos h]
      constructor
      · intro h2; omega
      · intro h2; exact absurd h h2.2
    · rw [if_neg (by simp), if_neg h]
      simp [h]
  · rw [if_pos rfl]
    constructor
    · intro h2; omega
    · intro h2; simp at h2
theorem skipL_take0 (l : List UInt8) (m : Nat) (h : skipL l = 0) : skipL (l.take m) = 0 := by
  unfold skipL at h ⊢
  match l, m with
  | [], m => rw [List.take_nil]; rfl
  | c :: r, 0 => rw [List.take_zero]; rfl
  | c :: r, m + 1 =>
    rw [List.take_succ_cons, skip_zero]
    rw [skip_zero] at h
    refine ⟨h.1, fun h2 => h.2 ⟨h2.1, ?_⟩⟩
    have h3 := h2.2
    cases r with
    | nil => simp at h3
    | cons a b =>
      cases m with
      | zero => simp at h3
      | succ m => simpa using h3
theorem skip_app0 (c : UInt8) (r l : List UInt8) (hc : c ≠ 47) (hl : l ≠ []) (h : skipL l = 0) : skipL (l ++ c :: r) = 0 := by
  unfold skipL at h ⊢
  match l, hl with
  | a :: b, _ =>
    rw [List.cons_append, skip_zero]
    rw [skip_zero] at h
    refine ⟨h.1, fun h2 => h.2 ⟨h2.1, ?_⟩⟩
    have h3 := h2.2
    cases b with
    | nil => simp at h3; exact absurd h3 hc
    | cons x y => simpa using h3
theorem skip_idem : ∀ (b : Bool) (l : List UInt8), skipB false (l.drop (skipB b l)) = 0
  | b, [] => by cases b <;> simp [skipB]
  | true, c :: r => by
    have h1 := skip_idem true r
    have h2 := skip_idem false r
    have e : skipB true (c :: r) = if c = 10 then 1 + skipB false r else 1 + skipB true r := by rw [skipB]
    rw [e]
    by_cases h : c = 10
    · rw [if_pos h, Nat.add_comm 1, List.drop_succ_cons]; exact h2
    · rw [if_neg h, Nat.add_comm 1, List.drop_succ_cons]; exact h1
  | false, c :: r => by
    have h1 := skip_idem true r
    have h2 := skip_idem false r
    rw [skip_cons]
    by_cases hb : isBl c = true
    · rw [if_pos hb, Nat.add_comm 1, List.drop_succ_cons]; exact h2
    · rw [if_neg hb]
      by_cases h : c = 47 ∧ r.head? = some 47
      · rw [if_pos h, Nat.add_comm 1, List.drop_succ_cons]; exact h1
      · rw [if_neg h, List.drop_zero, skip_zero]
        exact ⟨by simpa using hb, h⟩
/-- Each token of a text is a token by itself. -/
theorem toksL_ok : ∀ (f n p : Nat) (l : List UInt8) (ts : List Tk), skipL l = 0 → toksL f n p l = .ok ts → ∀ t ∈ ts, wordL t.2.1 = (t.1, t.2.1.length) ∧ 0 < t.2.1.length ∧ skipL t.2.1 = 0
  | 0, n, p, l, ts, _, h, t, ht => by
    rw [toksL] at h
    cases h
    simp at ht
  | f + 1, n, p, l, ts, hs, h, t, ht => by
    by_cases hl : l = []
    · rw [toksL, if_pos hl] at h
      cases h
      simp at ht
    · rw [toksL_step _ _ _ _ hl] at h
      by_cases h0 : (wordL l).2 = 0
      · rw [if_pos h0] at h; cases h
      · rw [if_neg h0] at h
        by_cases h1 : n = 4096
        · rw [if_pos h1] at h; cases h
        · rw [if_neg h1] at h
          have hsk : skipL (l.drop ((wordL l).2 + skipL (l.drop (wordL l).2))) = 0 := by
            rw [← List.drop_drop]
            exact skip_idem false _
          have ih := toksL_ok f (n + 1) (p + (wordL l).2 + skipL (l.drop (wordL l).2)) (l.drop ((wordL l).2 + skipL (l.drop (wordL l).2)))
          cases hr : toksL f (n + 1) (p + (wordL l).2 + skipL (l.drop (wordL l).2)) (l.drop ((wordL l).2 + skipL (l.drop (wordL l).2))) with
          | error e => rw [hr] at h; cases h
          | ok us =>
            rw [hr] at h
            cases h
            rcases List.mem_cons.1 ht with rfl | ht2
            · have hw := wordL_le l
              have hlen : (l.take (wordL l).2).length = (wordL l).2 := by rw [List.length_take]; omega
              refine ⟨?_, by rw [hlen]; omega, skipL_take0 l _ hs⟩
              rw [wordL_take l (by omega), hlen]
            · exact ih us hsk hr t ht2
end Go.Proofs.YtibnpbfggbbchaaDoor
