/- The walk of the statements' own same; Tokens as later walks ask it. -/
import Derived.Test.YtibnpbfggbbchaaDoorLexZa
import Derived.Test.YtibnpbfggbbchaaDoorLexP
namespace Go.Proofs.YtibnpbfggbbchaaDoor
open Go.RowKit Go.Lib

theorem tokens_ok (s : ByteArray) (ts : List Tk) (w : World) (hG : Gl w) (h : tokensL s.data.toList = .ok ts) :
    Calls Tryd.prog 13 #[.string s] w fun e w' => ∃ x c, e = .returned (.tuple #[.slice x ts.length c, .nilIface]) ∧ Below w.heap.size w w' ∧ ARow w' x (ts.map tka) := by
  have c := tokens_all s w hG
  rw [h] at c
  refine c.mono ?_
  rintro e w' ⟨hb, v, rfl, hown⟩
  obtain ⟨x, k, rfl⟩ := own_shape hown
  exact ⟨x, k, rfl, hb, (tokRow_own hown).arow⟩
theorem tokens_err (s : ByteArray) (f : Flt) (w : World) (hG : Gl w) (h : tokensL s.data.toList = .error f) :
    Calls Tryd.prog 13 #[.string s] w fun e w' => ∃ b, e = .returned (.tuple #[.slice none 0 0, .iface 32 (.pointer (some ⟨b, 0, none⟩))]) ∧ Below w.heap.size w w' := by
  have c := tokens_all s w hG
  rw [h] at c
  refine c.mono ?_
  rintro e w' ⟨hb, b, _, rfl, _⟩
  exact ⟨b, rfl, hb⟩
theorem joinL_part_le {l : List Ta} {u : Ta} (h : u ∈ l) : u.2.1.size ≤ (joinL l).length := by
  obtain ⟨a, b, rfl⟩ := List.append_of_mem h
  have h1 := joinL_app_le (a ++ [u]) b
  rw [List.append_assoc, List.singleton_append] at h1
  rw [Lib.size_eq]
  refine Nat.le_trans ?_ h1
  by_cases ha : a = []
  · subst ha
    rw [List.nil_append, joinL_one]
    exact Nat.le_refl _
  · rw [joinL_snoc a u ha]
    simp
    omega
/-- lexer.Join of any slice of tokens whose texts are not too great. -/
theorem joinA_all (l : List Ta) (n : Nat) (hl : l.length = n) (x : Option Addr) (c : Nat) (w : World) (hA : ARow w x l) (hj : (joinL l).length ≤ 70368744177664) (hG : Gl w) :
    Calls Tryd.prog 18 #[.slice x n c] w fun e w' => e = .returned (.tuple #[.string ⟨(joinR l).1.toArray⟩, .int .i64 (joinR l).2]) ∧ Below w.heap.size w w' := by
  subst hl
  by_cases hn : l.length ≤ 4096
  · exact join_any l x c w hn hA (fun u hu => by have := joinL_part_le hu; unfold maxLen; omega) (by omega) hG
  · exact join_long l x c w (by omega)
theorem ktA_at {l1 l2 : List Ta} (h : l1.map ktA = l2.map ktA) {i : Nat} {u1 u2 : Ta} (h1 : l1[i]? = some u1) (h2 : l2[i]? = some u2) : u1.1 = u2.1 ∧ u1.2.1 = u2.2.1 := by
  have h3 : (l1.map ktA)[i]? = (l2.map ktA)[i]? := by rw [h]
  rw [List.getElem?_map, List.getElem?_map, h1, h2] at h3
  simp only [Option.map_some, Option.some.injEq, ktA, Prod.mk.injEq] at h3
  refine ⟨h3.1, ?_⟩
  have h4 := h3.2
  cases h5 : u1.2.1 with
  | mk a => cases h6 : u2.2.1 with
    | mk b =>
      rw [h5, h6] at h4
      simp only at h4
      rw [Array.toList_inj.1 h4]

set_option maxHeartbeats 4000000 in
set_option maxRecDepth 100000 in
theorem same2_eq (l1 l2 : List Ta) (n : Nat) (xa xb : Option Addr) (ca cb : Nat) (w : World) (h1 : l1.length = n) (hn : n ≤ 140737488355328) (ha : ARow w xa l1) (hb : ARow w xb l2) (he : l1.map ktA = l2.map ktA) :
    Calls Tryd.prog 20 #[.slice xa n ca, .slice xb n cb] w fun e w' => e = .returned (.bool true) ∧ Below w.heap.size w w' := by
  have h2 : l2.length = n := by
    have := congrArg List.length he
    simp at this
    omega
  have HA := Lib.hid ha
  have HB := Lib.hid hb
  have HE := Lib.hid he
  clear ha hb he
  go_enter Tryd.func20, Tryd.ntmps20
  go_wp2_with fail
  go_loopw [5] (fun v wx => ∃ i : Nat, v = .int .i64 i ∧ i ≤ n ∧ Below w.heap.size w wx) (fun v _ => n - (intOf v).toNat)
  case atStart => exact ⟨0, rfl, Nat.zero_le _, Below.refl _ _⟩
  case round =>
    obtain ⟨i, rfl, hi, hbw⟩ := hrel
    by_cases hlt : i < n
    · obtain ⟨u, hu⟩ : ∃ u, l1[i]? = some u := ⟨l1[i]'(by omega), List.getElem?_eq_getElem (by omega)⟩
      obtain ⟨v, hv⟩ : ∃ v, l2[i]? = some v := ⟨l2[i]'(by omega), List.getElem?_eq_getElem (by omega)⟩
      obtain ⟨e1, e2⟩ := ktA_at HE.out hu hv
      obtain ⟨ga, oa, rfl, k0, k1, _⟩ := (HA.out.below hbw) i u hu
      obtain ⟨gb, ob, rfl, j0, j1, _⟩ := (HB.out.below hbw) i v hv
      rw [← e1] at j0
      rw [← e2] at j1
      obtain ⟨kd, S, at0⟩ := u
      simp only at k0 k1 j0 j1
      clear hu hv e1 e2
      go_wp2_with fail
      go_quiet (fail)
      go_wp2
      go_roundw
      case rel => exact ⟨i + 1, by go_num, by omega, bdn hbw _⟩
      case measure => simp [intOf]; omega
    · go_wp2
      go_ret
      exact ⟨rfl, hbw⟩
end Go.Proofs.YtibnpbfggbbchaaDoor
