/- Plain laws: what is put together is read again. -/
import Derived.Test.YtibnpbfggbbchaaDoorLexZ
namespace Go.Proofs.YtibnpbfggbbchaaDoor
open Go.RowKit Go.Lib

def ktT (t : Tk) : Int × List UInt8 := (t.1, t.2.1)
def ktA (u : Ta) : Int × List UInt8 := (u.1, u.2.1.data.toList)

theorem okT_parts {u : Ta} (h : okT u = true) : ∃ k : Nat, (k : Int) = u.1 ∧ wordL u.2.1.data.toList = (k, u.2.1.data.toList.length) ∧ u.2.1.data.toList ≠ [] ∧ skipL u.2.1.data.toList = 0 := by
  have h2 := (okT_iff u).1 h
  have hs : u.2.1.size = u.2.1.data.toList.length := Lib.size_eq _
  refine ⟨(wordL u.2.1.data.toList).1, h2.2.1, ?_, ?_, h2.2.2.2⟩
  · rw [← hs, ← h2.2.2.1]
  · intro h3
    have h4 := h2.1
    rw [h2.2.2.1, hs, h3] at h4
    simp at h4
theorem joinL_cons2 (u v : Ta) (r : List Ta) : joinL (u :: v :: r) = u.2.1.data.toList ++ 32 :: joinL (v :: r) := by
  unfold joinL
  rw [List.map_cons, Lib.join_cons, List.map_cons, Lib.join_cons]
  simp [Lib.joinTail]
theorem skip_joined (u : Ta) (r : List Ta) (h : okT u = true) : skipL (joinL (u :: r)) = 0 ∧ joinL (u :: r) ≠ [] := by
  obtain ⟨k, _, _, hne, hs⟩ := okT_parts h
  cases r with
  | nil => rw [joinL_one]; exact ⟨hs, hne⟩
  | cons v r =>
    rw [joinL_cons2]
    exact ⟨skip_app0 32 _ _ (by decide) hne hs, by simp⟩
/-- The tokens of what is put together. -/
theorem toksL_join : ∀ (l : List Ta) (f n p : Nat), l.all okT = true → (joinL l).length ≤ f → n + l.length ≤ 4096 → ∃ ts, toksL f n p (joinL l) = .ok ts ∧ ts.map ktT = l.map ktA
  | [], f, n, p, _, _, _ => ⟨[], by cases f <;> simp [toksL, joinL, Lib.join_nil], rfl⟩
  | [u], f, n, p, h, hf, hn => by
    have hu : okT u = true := by simpa using h
    obtain ⟨k, hk, hw, hne, hs⟩ := okT_parts hu
    rw [joinL_one] at hf ⊢
    obtain ⟨T, hT⟩ : ∃ T, u.2.1.data.toList = T := ⟨_, rfl⟩
    rw [hT] at hf hw hne ⊢
    have hlen := List.length_pos_iff.2 hne
    obtain ⟨g, rfl⟩ : ∃ g, f = g + 1 := ⟨f - 1, by omega⟩
    simp only [List.length_singleton] at hn
    rw [toksL_step _ _ _ _ hne, hw]
    dsimp only
    rw [if_neg (by omega), if_neg (by omega), List.drop_of_length_le (by omega : T.length ≤ T.length + _), List.take_length]
    have e : ∀ q, toksL g (n + 1) q [] = .ok [] := fun q => by cases g <;> simp [toksL]
    rw [e]
    exact ⟨_, rfl, by simp [ktT, ktA, hk, hT]⟩
  | u :: v :: r, f, n, p, h, hf, hn => by
    have h' : okT u = true ∧ (v :: r).all okT = true := by
      rw [List.all_cons, Bool.and_eq_true] at h
      exact h
    have hv : okT v = true := by
      have h2 := h'.2
      rw [List.all_cons, Bool.and_eq_true] at h2
      exact h2.1
    obtain ⟨k, hk, hw, hne, hs⟩ := okT_parts h'.1
    rw [joinL_cons2] at hf ⊢
    obtain ⟨hsJ, hnJ⟩ := skip_joined v r hv
    have ih := fun g n p => toksL_join (v :: r) g n p h'.2
    obtain ⟨J, hJ⟩ : ∃ J, joinL (v :: r) = J := ⟨_, rfl⟩
    rw [hJ] at hf hsJ hnJ ih ⊢
    obtain ⟨T, hT⟩ : ∃ T, u.2.1.data.toList = T := ⟨_, rfl⟩
    rw [hT] at hf hw hne ⊢
    have hlen := List.length_pos_iff.2 hne
    rw [List.length_append, List.length_cons] at hf
    obtain ⟨g, rfl⟩ : ∃ g, f = g + 1 := ⟨f - 1, by omega⟩
    simp only [List.length_cons] at hn
    have hw2 : wordL (T ++ 32 :: J) = (k, T.length) := by rw [wordL_app T 32 J hne (by decide), hw]
    rw [toksL_step _ _ _ _ (by simp), hw2]
    dsimp only
    have hd : (T ++ 32 :: J).drop T.length = 32 :: J := List.drop_left
    have hsk : skipL (32 :: J) = 1 := by
      unfold skipL at hsJ ⊢
      rw [skip_cons, if_pos (by decide), hsJ]
    have hd2 : (T ++ 32 :: J).drop (T.length + 1) = J := by rw [← List.drop_drop, hd]; rfl
    rw [if_neg (by omega), if_neg (by omega), hd, hsk, hd2, List.take_left]
    obtain ⟨ts, e1, e2⟩ := ih g (n + 1) (p + T.length + 1) (by omega) (by simp only [List.length_cons]; omega)
    rw [e1]
    exact ⟨_, rfl, by rw [List.map_cons, List.map_cons, e2]; simp [ktT, ktA, hk, hT]⟩
theorem tokensL_join (l : List Ta) (h : l.all okT = true) (hn : l.length ≤ 4096) (hb : (joinL l).length ≤ 65536) : ∃ ts, tokensL (joinL l) = .ok ts ∧ ts.map ktT = l.map ktA := by
  unfold tokensL
  rw [if_neg (by omega)]
  have hs : skipL (joinL l) = 0 := by
    cases l with
    | nil => rfl
    | cons u r =>
      rw [List.all_cons, Bool.and_eq_true] at h
      exact (skip_joined u r h.1).1
  rw [hs, List.drop_zero]
  exact toksL_join l _ 0 0 h (Nat.le_refl _) (by omega)
/-- The tokens of a text are tokens. -/
theorem tokensL_ok (s : List UInt8) (ts : List Tk) (h : tokensL s = .ok ts) : (ts.map tka).all okT = true := by
  unfold tokensL at h
  by_cases hb : 65536 < s.length
  · rw [if_pos hb] at h; cases h
  · rw [if_neg hb] at h
    have hok := toksL_ok s.length 0 (skipL s) (s.drop (skipL s)) ts (skip_idem false s) h
    rw [List.all_map, List.all_eq_true]
    intro t ht
    obtain ⟨h1, h2, h3⟩ := hok t ht
    show okT (tka t) = true
    rw [okT_iff]
    have e : (tka t).2.1.data.toList = t.2.1 := by simp [tka]
    have e2 : (tka t).2.1.size = t.2.1.length := by rw [Lib.size_eq, e]
    rw [e, e2, h1]
    exact ⟨h2, rfl, rfl, h3⟩
end Go.Proofs.YtibnpbfggbbchaaDoor
