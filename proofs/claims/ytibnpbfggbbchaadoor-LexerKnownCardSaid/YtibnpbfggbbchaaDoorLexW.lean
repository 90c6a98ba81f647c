/- The walk of lexer.Join. -/
import Derived.Test.YtibnpbfggbbchaaDoorLexV
namespace Go.Proofs.YtibnpbfggbbchaaDoor
open Go.RowKit Go.Lib

theorem Tryd.infoStr : (Tryd.prog.info? 9).map (fun i => (i.zero, i.size, i.bytes)) = some (some (.string ⟨#[]⟩), 1, 16) := by kernel_rfl
theorem cell_one_new (w : World) (a : Value) (t : TypeId) : ∀ j u, [a][j]? = some u → (w.alloc (.cells #[a] t)).cell? ((⟨w.heap.size, 0, none⟩ : Addr).add j) = some u := by
  intro j u hj
  match j, hj with
  | 0, hj => simp at hj; subst hj; simp [Addr.add]
  | j + 1, hj => simp at hj
theorem own_cap {w : World} {base : Nat} {e : TypeId} {size : Nat} {a : Option Addr} {m c n : Nat} {xs : List Value} (h : w.ownsRow base e size (.slice a m c) n xs) : n ≤ c := by
  rcases h.2 with ⟨h1, h2⟩ | ⟨g, cap, cur, h1, h2, h3, h4⟩
  · omega
  · cases h1
    exact h4.1
theorem ret_si {a b : ByteArray} {c d : Int} (h : a = b) (k : c = d) : Ending.returned (.tuple #[.string a, .int .i64 c]) = .returned (.tuple #[.string b, .int .i64 d]) := by rw [h, k]

set_option maxHeartbeats 4000000 in
set_option maxRecDepth 100000 in
theorem join_long (l : List Ta) (x : Option Addr) (c : Nat) (w : World) (hn : 4096 < l.length) :
    Calls Tryd.prog 18 #[.slice x l.length c] w fun e w' => e = .returned (.tuple #[.string ⟨(joinR l).1.toArray⟩, .int .i64 (joinR l).2]) ∧ Below w.heap.size w w' := by
  have hr : joinR l = ([], 3) := by unfold joinR; rw [if_pos hn]
  rw [hr]
  have Q : decide ((l.length : Int) > 4096) = true := by simp; omega
  clear hr hn
  go_enter Tryd.func18, Tryd.ntmps18
  go_wp2
  go_ret2
  exact ⟨rfl, Below.refl _ _⟩

set_option maxHeartbeats 4000000 in
set_option maxRecDepth 100000 in
theorem join_any (l : List Ta) (x : Option Addr) (c : Nat) (w : World) (hn : l.length ≤ 4096) (hA : ARow w x l) (hs : ∀ u ∈ l, u.2.1.size ≤ maxLen) (hj : (joinL l).length ≤ 140737488355328) (hG : Gl w) :
    Calls Tryd.prog 18 #[.slice x l.length c] w fun e w' => e = .returned (.tuple #[.string ⟨(joinR l).1.toArray⟩, .int .i64 (joinR l).2]) ∧ Below w.heap.size w w' := by
  have hr : joinR l = if l.all okT then (if 65536 < (joinL l).length then ([], 3) else (joinL l, 0)) else ([], 2) := by unfold joinR; rw [if_neg (by omega)]
  obtain ⟨R, hR⟩ : ∃ R, joinR l = R := ⟨_, rfl⟩
  rw [hR] at hr ⊢
  have HR := Lib.hid hr
  have HA := Lib.hid hA
  have HS := Lib.hid hs
  have HJ := Lib.hid hj
  have Q : decide ((l.length : Int) > 4096) = false := by simp; omega
  clear hr hR hA hs hj
  obtain ⟨i0, hi, hz0, hz1, hz2⟩ := info_parts Tryd.infoStr
  go_enter Tryd.func18, Tryd.ntmps18
  go_wp2_with fail
  go_loopw [4, 15] (fun v i wx => ∃ k : Nat, i = .int .i64 k ∧ k ≤ l.length ∧ Below w.heap.size w wx ∧ wx.ownsRow w.heap.size 9 1 v k ((l.take k).map fun u => .string u.2.1) ∧ Hid ((l.take k).all okT = true)) (fun _ i _ => l.length - (intOf i).toNat)
  case atStart => exact ⟨0, rfl, Nat.zero_le _, Below.refl _ _, World.ownsRow_nil _ _ _ _, by simp [Hid]⟩
  case round =>
    obtain ⟨k, rfl, hk, hb, hown, hall⟩ := hrel
    by_cases hlt : k < l.length
    · obtain ⟨u, hu⟩ : ∃ u, l[k]? = some u := ⟨l[k], List.getElem?_eq_getElem hlt⟩
      obtain ⟨g, o, rfl, k0, k1, k2⟩ := (HA.out.below hb) k u hu
      have hus := HS.out u (List.mem_of_getElem? hu)
      have hts := all_take_succ hu
      rw [hall.out, Bool.true_and] at hts
      have htf := all_take_false hu
      have hok := okT_iff u
      have hmap : (l.take (k + 1)).map (fun u => Value.string u.2.1) = (l.take k).map (fun u => Value.string u.2.1) ++ [.string u.2.1] := by rw [List.take_add_one, hu]; simp
      have HM := Lib.hid hmap
      have hwl := wordL_le u.2.1.data.toList
      rw [← Lib.size_eq] at hwl
      obtain ⟨kd, S, at0⟩ := u
      simp only at k0 k1 k2 hus hok hwl HM
      obtain ⟨kk, hkk⟩ : ∃ kk, (wordL S.data.toList).1 = kk := ⟨_, rfl⟩
      obtain ⟨n, hnn⟩ : ∃ n, (wordL S.data.toList).2 = n := ⟨_, rfl⟩
      obtain ⟨q, hq⟩ : ∃ q, skipL S.data.toList = q := ⟨_, rfl⟩
      have cW : Calls Tryd.prog 21 #[.string S] (wr.alloc (.cells #[.int .i64 kd, .string S, .int .i64 at0] 30)) fun e w' => e = .returned (.tuple #[.int .i64 kk, .int .i64 n]) ∧ Below wr.heap.size wr w' ∧ w'.cell? ⟨wr.heap.size, 0, none⟩ = some (.int .i64 kd) ∧ w'.cell? ⟨wr.heap.size, 1, none⟩ = some (.string S) := by
        have h0 : Below wr.heap.size wr (wr.alloc (.cells #[.int .i64 kd, .string S, .int .i64 at0] 30)) := (Below.refl _ _).alloc (Nat.le_refl _) _
        refine (word_any S _ hus ((hG.below hb).below h0)).mono ?_
        rintro e w' ⟨rfl, hb'⟩
        have hc := cell_three_new wr (.int .i64 kd) (.string S) (.int .i64 at0) 30
        have hlt' : wr.heap.size < (wr.alloc (.cells #[.int .i64 kd, .string S, .int .i64 at0] 30)).heap.size := by simp
        exact ⟨ret_2i (by rw [hkk]) (by rw [hnn]), tr h0 hb', (hb'.cell (p := ⟨wr.heap.size, 0, none⟩) hlt').trans (hc 0 _ rfl), (hb'.cell (p := ⟨wr.heap.size, 1, none⟩) hlt').trans (hc 1 _ rfl)⟩
      have cS : ∀ W, Below wr.heap.size wr W → W.cell? ⟨wr.heap.size, 1, none⟩ = some (.string S) → Calls Tryd.prog 24 #[.string S] W fun e w' => e = .returned (.int .i64 q) ∧ Below wr.heap.size wr w' ∧ w'.cell? ⟨wr.heap.size, 1, none⟩ = some (.string S) := by
        intro W h1 h2
        refine (skip_any S W hus).mono ?_
        rintro e w' ⟨rfl, hb'⟩
        exact ⟨by rw [hq], tr h1 hb', (hb'.cell (p := ⟨wr.heap.size, 1, none⟩) (World.block_lt_of_cell? W _ h2)).trans h2⟩
      clear hmap hu HS hall hG
      rw [hkk, hnn, hq] at hok
      rw [hnn] at hwl
      clear hkk hnn hq
      cases hO : okT (kd, S, at0)
      · have hf := htf hO
        rw [hO] at hok
        have HF : Hid (R = ([], 2)) := Lib.hid (by rw [HR.out, hf]; rfl)
        clear htf hts hf
        by_cases h1 : n = 0
        · have Q0 : ((n : Int) == 0) = true := by simp; omega
          clear hok
          go_wp2_with (first | (go_at_call 21; (with_reducible refine cW.mono ?_); rintro e w1 ⟨rfl, hb1, d0, d1⟩))
          go_ret2
          exact ⟨by rw [HF.out]; rfl, tr hb hb1⟩
        · have Q0 : ((n : Int) == 0) = false := by simp; omega
          by_cases h2 : (kk : Int) = kd
          · by_cases h3 : n = S.size
            · have h4 : 0 < q := by
                rcases Nat.eq_zero_or_pos q with h | h
                · exact absurd (hok.2 ⟨by omega, h2, h3, h⟩) (by simp)
                · exact h
              subst h3
              have Q2 : decide ((S.size : Int) < (S.size : Int)) = false := by simp
              have Q3 : decide ((q : Int) > 0) = true := by simp; omega
              obtain rfl := h2
              clear hok
              go_wp2_with (first | (go_at_call 21; (with_reducible refine cW.mono ?_); rintro e w1 ⟨rfl, hb1, d0, d1⟩) | (go_at_call 24; (with_reducible refine (cS _ hb1 d1).mono ?_); rintro e w2 ⟨rfl, hb2, d2⟩))
              go_ret2
              exact ⟨by rw [HF.out]; rfl, tr hb hb2⟩
            · have Q2 : decide (n < S.size) = true := by simp; omega
              obtain rfl := h2
              clear hok
              go_wp2_with (first | (go_at_call 21; (with_reducible refine cW.mono ?_); rintro e w1 ⟨rfl, hb1, d0, d1⟩))
              go_ret2
              exact ⟨by rw [HF.out]; rfl, tr hb hb1⟩
          · have Q1 : ((kk : Int) != kd) = true := by simp; exact h2
            clear hok
            go_wp2_with (first | (go_at_call 21; (with_reducible refine cW.mono ?_); rintro e w1 ⟨rfl, hb1, d0, d1⟩))
            go_ret2
            exact ⟨by rw [HF.out]; rfl, tr hb hb1⟩
      · obtain ⟨h1, h2, h3, h4⟩ := hok.1 hO
        rw [hO] at hts
        have hts2 := Lib.hid hts
        have Q0 : ((n : Int) == 0) = false := by simp; omega
        subst h4
        subst h3
        have Q2 : decide ((S.size : Int) < (S.size : Int)) = false := by simp
        obtain rfl := h2
        obtain ⟨va, vc, rfl⟩ := own_shape hown
        have hk4 : k < 4096 := by omega
        clear hok htf hts h1
        go_wp2_with (first | (go_at_call 21; (with_reducible refine cW.mono ?_); rintro e w1 ⟨rfl, hb1, d0, d1⟩) | (go_at_call 24; (with_reducible refine (cS _ hb1 d1).mono ?_); rintro e w2 ⟨rfl, hb2, d2⟩; have hown1 := own_below hown hb2) | (at_builtin; refine wpList_append_own _ rfl (.tmp 46) (.tmp 49) 43 rfl (w.heap.size) 9 i0 (.string ⟨#[]⟩) 1 16 Tryd.underlying43 hi hz0 hz1 hz2 rfl (by decide) _ _ _ rfl (hown1.alloc _) ⟨w2.heap.size, 0, none⟩ 1 1 [.string S] rfl rfl (cell_one_new _ _ _) (fun x hx => by simp at hx; rcases hx with rfl; rfl) (by unfold maxLen; omega) (by omega) (by have := hb.size; have := hb2.size; simp; omega) ?_; intro v' w3 hown' hgrow3 hnil3))
        have hbw3 : Below w.heap.size w w3 := Below.grown ((tr hb hb2).alloc (tr hb hb2).size _) hgrow3 (by have := (tr hb hb2).size; simp; omega) (fun j hj => (hown1.lt _ hj).1)
        go_roundw
        case rel => exact ⟨k + 1, by go_num, by omega, hbw3, by rw [HM.out]; simpa using hown', hts2⟩
        case measure => simp [intOf]; omega
    · have hkl : k = l.length := by omega
      subst hkl
      rw [List.take_length] at hown hall
      have hall2 := hall.out
      have hRt : R = if 65536 < (joinL l).length then ([], 3) else (joinL l, 0) := by rw [HR.out, if_pos hall2]
      have cJ : Calls Tryd.prog 29 #[u4, .string ⟨#[32]⟩] wr fun e w' => e = .returned (.string ⟨(joinL l).toArray⟩) ∧ Below wr.heap.size wr w' := by
        obtain ⟨va, vc, rfl⟩ := own_shape hown
        rcases Nat.eq_zero_or_pos l.length with h0 | h0
        · have : l = [] := List.length_eq_zero_iff.1 h0
          subst this
          refine (Tryd.strings_Join_none va vc ⟨#[32]⟩ wr).mono ?_
          rintro e w' ⟨rfl, rfl⟩
          exact ⟨rfl, Below.refl _ _⟩
        · obtain ⟨g, c', h1, h2, h3, h4⟩ := own_some hown h0
          cases h1
          have h := Tryd.strings_Join g 0 vc (l.map (·.2.1)) ⟨#[32]⟩ wr (fun j x hj => by
            rw [List.getElem?_map] at hj
            obtain ⟨u, hu, rfl⟩ := Option.map_eq_some_iff.1 hj
            have := h4 j (by have := (List.getElem?_eq_some_iff.1 hu).1; omega)
            simpa [hu] using this) h3 (by simp; omega) (by simp; exact own_cap hown) (by have := HJ.out; simpa [joinL, List.map_map, Function.comp_def] using this)
          simpa [joinL, List.map_map, Function.comp_def] using h
      obtain ⟨J, hJ⟩ : ∃ J, joinL l = J := ⟨_, rfl⟩
      rw [hJ] at hRt cJ
      have hjs : (⟨J.toArray⟩ : ByteArray).size = J.length := by simp [ByteArray.size]
      clear hall hall2 HR HJ
      by_cases hb6 : 65536 < J.length
      · rw [if_pos hb6] at hRt
        have HF := Lib.hid hRt
        have Q5 : decide (((⟨J.toArray⟩ : ByteArray).size : Int) > 65536) = true := by rw [hjs]; simp; omega
        obtain ⟨T, hT⟩ : ∃ T : ByteArray, (⟨J.toArray⟩ : ByteArray) = T := ⟨_, rfl⟩
        rw [hT] at cJ Q5
        clear hRt hjs hT
        go_wp2_with (first | (go_at_call 29; (with_reducible refine cJ.mono ?_); rintro e w1 ⟨rfl, hb1⟩))
        go_ret2
        exact ⟨by rw [HF.out]; rfl, tr hb hb1⟩
      · rw [if_neg hb6] at hRt
        have HF := Lib.hid hRt
        have Q5 : decide (((⟨J.toArray⟩ : ByteArray).size : Int) > 65536) = false := by rw [hjs]; simp; omega
        obtain ⟨T, hT⟩ : ∃ T : ByteArray, (⟨J.toArray⟩ : ByteArray) = T := ⟨_, rfl⟩
        rw [hT] at cJ Q5
        have HT := Lib.hid hT
        clear hRt hjs hT
        go_wp2_with (first | (go_at_call 29; (with_reducible refine cJ.mono ?_); rintro e w1 ⟨rfl, hb1⟩))
        go_ret2
        exact ⟨by rw [HF.out]; exact ret_si HT.out.symm rfl, tr hb hb1⟩
end Go.Proofs.YtibnpbfggbbchaaDoor
