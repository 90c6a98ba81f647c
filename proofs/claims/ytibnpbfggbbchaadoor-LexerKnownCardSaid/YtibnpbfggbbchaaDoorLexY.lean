/- The walk of the reference's Join. -/
import Derived.Test.YtibnpbfggbbchaaDoorLexX
import Derived.Lib.BufferRead
namespace Go.Proofs.YtibnpbfggbbchaaDoor
open Go.RowKit Go.Lib

theorem joinL_one (u : Ta) : joinL [u] = u.2.1.data.toList := Lib.join_one _ _
theorem joinL_snoc (l : List Ta) (u : Ta) (h : l ≠ []) : joinL (l ++ [u]) = joinL l ++ 32 :: u.2.1.data.toList := by
  match l, h with
  | a :: r, _ =>
    unfold joinL
    rw [List.cons_append, List.map_cons, List.map_cons, Lib.join_cons, Lib.join_cons]
    simp [Lib.joinTail]
theorem joinL_take_succ {l : List Ta} {k : Nat} {u : Ta} (h : l[k]? = some u) (hk : k ≠ 0) : joinL (l.take (k + 1)) = joinL (l.take k) ++ 32 :: u.2.1.data.toList := by
  have hl := (List.getElem?_eq_some_iff.1 h).1
  rw [List.take_add_one, h]
  exact joinL_snoc _ _ (by intro h2; have h3 := congrArg List.length h2; rw [List.length_take] at h3; simp only [List.length_nil] at h3; omega)
theorem joinL_app_le (l r : List Ta) : (joinL l).length ≤ (joinL (l ++ r)).length := by
  match l with
  | [] => simp [joinL, Lib.join_nil]
  | a :: t =>
    unfold joinL
    rw [List.cons_append, List.map_cons, List.map_cons, Lib.join_cons, Lib.join_cons]
    simp [Lib.joinTail]
theorem joinL_take_le (l : List Ta) (k : Nat) : (joinL (l.take k)).length ≤ (joinL l).length := by
  have := joinL_app_le (l.take k) (l.drop k)
  rwa [List.take_append_drop] at this
theorem strCells_map (s : ByteArray) : strCells s = s.data.toList.map fun b => Value.int .u8 b.toNat := rfl

/-- The text of a buffer of bytes. -/
theorem conv_own {B : Nat} {v : Value} {l : List UInt8} {W0 w : World} (h : OwnBuf B 5 v l.length (l.map fun b => Value.int .u8 b.toNat) W0 w) :
    (convert 47 9 v).run Tryd.prog w = .ok (.string ⟨l.toArray⟩) w := by
  rcases h.1.2 with ⟨rfl, h0⟩ | ⟨g, cap, cur, fz, rfl, h2⟩
  · have : l = [] := List.length_eq_zero_iff.1 h0
    subst this
    exact Lib.run_convert_nil_bytes w 47 9 5 0 Tryd.underlying47 Tryd.underlying5 Tryd.underlying9
  · exact run_convert_bytes_back w 47 9 5 ⟨g, 0, none⟩ cap l Tryd.underlying47 Tryd.underlying5 Tryd.underlying9 (fun j hj => h.1.cells (g := g) rfl j _ (by simp [hj]))
theorem buf_shape {B : Nat} {e : TypeId} {v : Value} {n : Nat} {xs : List Value} {W0 w : World} (h : OwnBuf B e v n xs W0 w) : ∃ a c, v = .slice a n c := by
  rcases h.1.2 with ⟨rfl, rfl⟩ | ⟨g, cap, cur, fz, rfl, _⟩
  · exact ⟨_, _, rfl⟩
  · exact ⟨_, _, rfl⟩

theorem Tryd.infoU8 : (Tryd.prog.info? 5).map (fun i => (i.zero, i.size, i.bytes)) = some (some (.int .u8 0), 1, 1) := by kernel_rfl

set_option maxHeartbeats 4000000 in
set_option maxRecDepth 100000 in
theorem rjoin_long (l : List Ta) (x : Option Addr) (c : Nat) (w : World) (hn : 4096 < l.length) :
    Calls Tryd.prog 19 #[.slice x l.length c] w fun e w' => e = .returned (.tuple #[.string ⟨(joinR l).1.toArray⟩, .int .i64 (joinR l).2]) ∧ Below w.heap.size w w' := by
  have hr : joinR l = ([], 3) := by unfold joinR; rw [if_pos hn]
  rw [hr]
  have Q : decide ((l.length : Int) > 4096) = true := by simp; omega
  clear hr hn
  go_enter Tryd.func19, Tryd.ntmps19
  go_wp2
  go_ret2
  exact ⟨rfl, Below.refl _ _⟩

set_option maxHeartbeats 4000000 in
set_option maxRecDepth 100000 in
theorem rjoin_any (l : List Ta) (x : Option Addr) (c : Nat) (w : World) (hn : l.length ≤ 4096) (hA : ARow w x l) (hs : ∀ u ∈ l, u.2.1.size ≤ 70368744177664) (hG : Gl w) :
    Calls Tryd.prog 19 #[.slice x l.length c] w fun e w' => e = .returned (.tuple #[.string ⟨(joinR l).1.toArray⟩, .int .i64 (joinR l).2]) ∧ Below w.heap.size w w' := by
  have hr : joinR l = if l.all okT then (if 65536 < (joinL l).length then ([], 3) else (joinL l, 0)) else ([], 2) := by unfold joinR; rw [if_neg (by omega)]
  obtain ⟨R, hR⟩ : ∃ R, joinR l = R := ⟨_, rfl⟩
  rw [hR] at hr ⊢
  have HR := Lib.hid hr
  have HA := Lib.hid hA
  have HS := Lib.hid hs
  have Q : decide ((l.length : Int) > 4096) = false := by simp; omega
  clear hr hR hA hs
  obtain ⟨i0, hi, hz0, hz1, hz2⟩ := info_parts Tryd.infoU8
  go_enter Tryd.func19, Tryd.ntmps19
  go_wp2_with fail
  go_loopw [5] (fun i wx => ∃ k : Nat, i = .int .i64 k ∧ k ≤ l.length ∧ Below w.heap.size w wx ∧ Hid ((l.take k).all okT = true)) (fun i _ => l.length - (intOf i).toNat)
  case atStart => exact ⟨0, rfl, Nat.zero_le _, Below.refl _ _, by simp [Hid]⟩
  case round =>
    obtain ⟨k, rfl, hk, hb, hall⟩ := hrel
    by_cases hlt : k < l.length
    · obtain ⟨u, hu⟩ : ∃ u, l[k]? = some u := ⟨l[k], List.getElem?_eq_getElem hlt⟩
      obtain ⟨g, o, rfl, k0, k1, k2⟩ := (HA.out.below hb) k u hu
      have hus := HS.out u (List.mem_of_getElem? hu)
      have hts := all_take_succ hu
      rw [hall.out, Bool.true_and] at hts
      have htf := all_take_false hu
      obtain ⟨kd, S, at0⟩ := u
      simp only at k0 k1 k2 hus
      have cI := ris_any kd S at0 wr (by omega) (hG.below hb)
      clear hu HS hall
      cases hO : okT (kd, S, at0)
      · have hf := htf hO
        rw [hO] at cI
        have HF : Hid (R = ([], 2)) := Lib.hid (by rw [HR.out, hf]; rfl)
        clear htf hts hf hG
        go_wp2_with (first | (go_at_call 30; (with_reducible refine cI.mono ?_); rintro e w1 ⟨rfl, hb1⟩))
        go_ret2
        exact ⟨by rw [HF.out]; rfl, tr hb hb1⟩
      · rw [hO] at cI hts
        have hts2 := Lib.hid hts
        clear htf hts hG
        go_wp2_with (first | (go_at_call 30; (with_reducible refine cI.mono ?_); rintro e w1 ⟨rfl, hb1⟩))
        go_roundw
        case rel => exact ⟨k + 1, by go_num, by omega, tr hb hb1, hts2⟩
        case measure => simp [intOf]; omega
    · have hkl : k = l.length := by omega
      subst hkl
      rw [List.take_length] at hall
      have hall2 := hall.out
      have hRt : Hid (R = if 65536 < (joinL l).length then ([], 3) else (joinL l, 0)) := Lib.hid (by rw [HR.out, if_pos hall2])
      clear hall hall2 HR hG
      go_wp2_with fail
      go_loopw [4, 7] (fun v i wx => ∃ k : Nat, i = .int .i64 k ∧ k ≤ l.length ∧ OwnBuf w.heap.size 5 v (joinL (l.take k)).length ((joinL (l.take k)).map fun b => Value.int .u8 b.toNat) w wx ∧ (joinL (l.take k)).length ≤ 65536) (fun _ i _ => l.length - (intOf i).toNat)
      case atStart => exact ⟨0, rfl, Nat.zero_le _, ⟨World.ownsRowF_nil _ _ _ _, hb, hb.size⟩, by simp [joinL, Lib.join_nil]⟩
      case round =>
        obtain ⟨k, rfl, hk2, hown, hM⟩ := hrel
        by_cases hlt : k < l.length
        · obtain ⟨u, hu⟩ : ∃ u, l[k]? = some u := ⟨l[k], List.getElem?_eq_getElem hlt⟩
          obtain ⟨g, o, hx, _⟩ := HA.out k u hu
          have hcell : ∀ W, Below w.heap.size w W → W.cell? ⟨g, o + k * 3 + 1, none⟩ = some (.string u.2.1) := fun W hW => by
            obtain ⟨g', o', hx', _, h1, _⟩ := (HA.out.below hW) k u hu
            rw [hx] at hx'
            cases hx'
            exact h1
          subst hx
          have hus := HS.out u (List.mem_of_getElem? hu)
          have htk : (joinL (l.take (k + 1))).length ≤ (joinL l).length := joinL_take_le l (k + 1)
          have hJ0 : k = 0 → joinL (l.take (k + 1)) = u.2.1.data.toList := fun h => by
            subst h
            rw [List.take_add_one, hu]
            exact joinL_one u
          have hJ1 : k ≠ 0 → joinL (l.take (k + 1)) = joinL (l.take k) ++ 32 :: u.2.1.data.toList := joinL_take_succ hu
          have hJz : k = 0 → joinL (l.take k) = [] := fun h => by subst h; rfl
          obtain ⟨kd, S, at0⟩ := u
          simp only at hcell hus hJ0 hJ1
          have hSs : S.data.toList.length = S.size := (Lib.size_eq S).symm
          obtain ⟨J, hJ⟩ : ∃ J, joinL (l.take k) = J := ⟨_, rfl⟩
          rw [hJ] at hown hM hJ1 hJz
          obtain ⟨J', hJ'⟩ : ∃ J', joinL (l.take (k + 1)) = J' := ⟨_, rfl⟩
          rw [hJ'] at htk hJ0 hJ1
          obtain ⟨M, hMM⟩ : ∃ M, J.length = M := ⟨_, rfl⟩
          obtain ⟨X, hX⟩ : ∃ X, (J.map fun b => Value.int .u8 b.toNat) = X := ⟨_, rfl⟩
          rw [hMM, hX] at hown
          rw [hMM] at hM
          obtain ⟨N, hN⟩ : ∃ N, J'.length = N := ⟨_, rfl⟩
          rw [hN] at htk
          have HJ' := Lib.hid hJ'
          clear hu HS HA hJ hJ'
          by_cases hk0 : k = 0
          · have hJe := hJ0 hk0
            have hJz2 := hJz hk0
            subst hk0
            have hcc := hcell wr hown.2.1
            have hNN : M + S.size = N := by rw [← hMM, hJz2, ← hN, hJe, hSs]; simp
            have hXX : Hid (X ++ strCells S = J'.map fun b => Value.int .u8 b.toNat) := Lib.hid (by rw [← hX, hJz2, hJe]; rfl)
            have HN := Lib.hid hN
            clear hJ0 hJ1 hJz hJe hJz2 hMM hX hSs hN hcell
            by_cases h6 : 65536 < N
            · have Q5 : decide ((N : Int) > 65536) = true := by simp; omega
              have HF : Hid (R = ([], 3)) := Lib.hid (by rw [hRt.out, if_pos (by omega)])
              go_wp2_with (first | (at_builtin; refine Lib.wpList_append_text rfl (.tmp 35) (.tmp 40) 47 9 rfl (w.heap.size) 5 i0 Tryd.underlying47 Tryd.underlying9 hi hz0 hz1 hz2 _ M _ rfl w hown S rfl (by omega) ?_; intro v2 w2 ho2; rw [hNN] at ho2; obtain ⟨a2, c2, rfl⟩ := buf_shape ho2))
              go_ret2
              exact ⟨by rw [HF.out]; rfl, ho2.2.1⟩
            · have Q5 : decide ((N : Int) > 65536) = false := by simp; omega
              go_wp2_with (first | (at_builtin; refine Lib.wpList_append_text rfl (.tmp 35) (.tmp 40) 47 9 rfl (w.heap.size) 5 i0 Tryd.underlying47 Tryd.underlying9 hi hz0 hz1 hz2 _ M _ rfl w hown S rfl (by omega) ?_; intro v2 w2 ho2; rw [hNN] at ho2; obtain ⟨a2, c2, rfl⟩ := buf_shape ho2))
              go_roundw
              case rel => exact ⟨1, by go_num, by omega, by rw [HJ'.out, HN.out, ← hXX.out]; exact ho2, by rw [HJ'.out, HN.out]; omega⟩
              case measure => simp [intOf]; omega
          · have hJe := hJ1 hk0
            have hNN : M + 1 + S.size = N := by rw [← hMM, ← hN, hJe, ← hSs]; simp; omega
            have hXX : Hid (X ++ [.int .u8 32] ++ strCells S = J'.map fun b => Value.int .u8 b.toNat) := Lib.hid (by rw [← hX, hJe]; simp [strCells_map])
            have HN := Lib.hid hN
            have Q1 : decide (0 < k) = true := by simp; omega
            clear hJ0 hJ1 hJz hJe hMM hX hSs hN
            by_cases h6 : 65536 < N
            · have Q5 : decide ((N : Int) > 65536) = true := by simp; omega
              have HF : Hid (R = ([], 3)) := Lib.hid (by rw [hRt.out, if_pos (by omega)])
              go_wp2_with (first | (at_builtin; refine Lib.wpList_append_byte rfl (.tmp 32) (.tmp 33) 47 rfl (w.heap.size) 5 i0 Tryd.underlying47 hi hz0 hz1 hz2 _ M _ rfl w _ 32 hown rfl (by omega) ?_; intro v1 w1 ho1; have hcc := hcell _ ho1.2.1) | (at_builtin; refine Lib.wpList_append_text rfl (.tmp 35) (.tmp 40) 47 9 rfl (w.heap.size) 5 i0 Tryd.underlying47 Tryd.underlying9 hi hz0 hz1 hz2 _ (M + 1) _ rfl w ho1 S rfl (by omega) ?_; intro v2 w2 ho2; rw [hNN] at ho2; obtain ⟨a2, c2, rfl⟩ := buf_shape ho2))
              go_ret2
              exact ⟨by rw [HF.out]; rfl, ho2.2.1⟩
            · have Q5 : decide ((N : Int) > 65536) = false := by simp; omega
              go_wp2_with (first | (at_builtin; refine Lib.wpList_append_byte rfl (.tmp 32) (.tmp 33) 47 rfl (w.heap.size) 5 i0 Tryd.underlying47 hi hz0 hz1 hz2 _ M _ rfl w _ 32 hown rfl (by omega) ?_; intro v1 w1 ho1; have hcc := hcell _ ho1.2.1) | (at_builtin; refine Lib.wpList_append_text rfl (.tmp 35) (.tmp 40) 47 9 rfl (w.heap.size) 5 i0 Tryd.underlying47 Tryd.underlying9 hi hz0 hz1 hz2 _ (M + 1) _ rfl w ho1 S rfl (by omega) ?_; intro v2 w2 ho2; rw [hNN] at ho2; obtain ⟨a2, c2, rfl⟩ := buf_shape ho2))
              go_roundw
              case rel => exact ⟨k + 1, by go_num, by omega, by rw [HJ'.out, HN.out, ← hXX.out]; exact ho2, by rw [HJ'.out, HN.out]; omega⟩
              case measure => simp [intOf]; omega
        · have hkl : k = l.length := by omega
          subst hkl
          rw [List.take_length] at hown hM
          have HF : Hid (R = (joinL l, 0)) := Lib.hid (by rw [hRt.out, if_neg (by omega)])
          have hconv := conv_own hown
          clear HA HS
          go_wp2
          go_ret2
          exact ⟨by rw [HF.out]; rfl, hown.2.1⟩
end Go.Proofs.YtibnpbfggbbchaaDoor
