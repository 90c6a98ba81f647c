/- For every text each token that lexer.Tokens tells stands in the text at its place, one behind the other, blanks and comments alone between them: the law LexerPlaces returns true. Conditions: the listed variables of Go's library and errors.errorType are as the program's text lays them (the card ties them). -/
import Derived.Test.YtibnpbfggbbchaaDoorFr
import Derived.Test.YtibnpbfggbbchaaDoorLexP
import Derived.Test.YtibnpbfggbbchaaDoorCards
import Derived.Test.YtibnpbfggbbchaaDoorTie
import Derived.SevenTiedAt
namespace Go.Proofs.YtibnpbfggbbchaaDoor
open Go.ChangeShapes Go.WideShapes Go.RowKit Go.Lib Go.ChangeAt
open Go.ChangeMaps (open_string shut_string)

theorem tkFlat_at : ∀ (ts : List Tk) (i : Nat) (t : Tk), ts[i]? = some t → (tkFlat ts)[i * 3]? = some (.int .i64 t.1) ∧ (tkFlat ts)[i * 3 + 1]? = some (.string ⟨t.2.1.toArray⟩) ∧ (tkFlat ts)[i * 3 + 2]? = some (.int .i64 t.2.2)
  | [], i, t, h => by simp at h
  | u :: r, 0, t, h => by
    simp at h
    subst h
    exact ⟨rfl, rfl, rfl⟩
  | u :: r, i + 1, t, h => by
    have ih := tkFlat_at r i t (by simpa using h)
    have e : ∀ k, (tkFlat (u :: r))[(i + 1) * 3 + k]? = (tkFlat r)[i * 3 + k]? := fun k => by
      show (tkCells u ++ tkFlat r)[(i + 1) * 3 + k]? = _
      rw [List.getElem?_append_right (by simp [tkCells]; omega)]
      congr 1
      simp [tkCells]
      omega
    exact ⟨(e 0).trans ih.1, (e 1).trans ih.2.1, (e 2).trans ih.2.2⟩
/-- The cells of token i of an owned row of tokens, in a later world. -/
theorem tok_cells {w w' : World} {base : Nat} {e : TypeId} {g cap : Nat} {ts : List Tk} (h : w.ownsRow base e 3 (.slice (some ⟨g, 0, none⟩) ts.length cap) ts.length (tkFlat ts)) (hb : Below w.heap.size w w') (hg : g < w.heap.size) {i : Nat} {t : Tk} (ht : ts[i]? = some t) :
    w'.cell? ⟨g, i * 3, none⟩ = some (.int .i64 t.1) ∧ w'.cell? ⟨g, i * 3 + 1, none⟩ = some (.string ⟨t.2.1.toArray⟩) ∧ w'.cell? ⟨g, i * 3 + 2, none⟩ = some (.int .i64 t.2.2) := by
  have hi : i < ts.length := (List.getElem?_eq_some_iff.1 ht).1
  have hf := tkFlat_at ts i t ht
  refine ⟨?_, ?_, ?_⟩
  · rw [hb.cell (p := ⟨g, i * 3, none⟩) hg, h.cellAt _ (by omega)]; exact hf.1
  · rw [hb.cell (p := ⟨g, i * 3 + 1, none⟩) hg, h.cellAt _ (by omega)]; exact hf.2.1
  · rw [hb.cell (p := ⟨g, i * 3 + 2, none⟩) hg, h.cellAt _ (by omega)]; exact hf.2.2

set_option maxHeartbeats 4000000 in
set_option maxRecDepth 100000 in
theorem lawPlaces_walk (s : ByteArray) (w : World) (hs : s.size ≤ 140737488355328) (hG : Gl w) (hE : GlE w) :
    Calls Tryd.prog 4 #[.string s] w fun e w' => e = .returned (.bool true) ∧ Below w.heap.size w w' := by
  have c1 := tokens_all s w hG
  have c3 := fun W (hb : Below w.heap.size w W) => wakes_any W (hG.below hb) (hE.below hb)
  have hpl := tokensL_places s.data.toList
  have hnl := tokensL_len s.data.toList
  clear hG hE
  obtain ⟨R, hR⟩ : ∃ R, tokensL s.data.toList = R := ⟨_, rfl⟩
  rw [hR] at c1 hpl hnl
  clear hR
  cases R with
  | error f =>
    clear hpl hnl
    go_enter Tryd.func4, Tryd.ntmps4
    go_wp2_with (first | (go_at_call 13; (with_reducible refine c1.mono ?_); rintro e w1 ⟨hb1, b, _, rfl, _⟩) | (go_at_call 12; (with_reducible refine (c3 _ hb1).mono ?_); rintro e w3 ⟨rfl, hb3⟩))
    go_ret
    exact ⟨rfl, tr hb1 hb3⟩
  | ok ts =>
    have HP := Lib.hid (hpl ts rfl)
    have hn := hnl ts rfl
    clear hpl hnl
    go_enter Tryd.func4, Tryd.ntmps4
    go_wp2_with fail
    refine c1.mono ?_
    rintro e w1 ⟨hb1, v, rfl, hown⟩
    clear c1
    obtain ⟨va, vc, rfl⟩ := own_shape hown
    have hsome : ∀ i, i < ts.length → ∃ g, va = some ⟨g, 0, none⟩ ∧ g < w1.heap.size := by
      intro i hi
      obtain ⟨g, cap, h1, _, h2, _⟩ := own_some hown (by omega)
      cases h1
      exact ⟨g, rfl, h2⟩
    have HO := Lib.hid hown
    have HM := Lib.hid hsome
    clear hown hsome
    go_wp2_with fail
    go_loopw [5, 6] (fun u v wx => ∃ e i : Nat, u = .int .i64 e ∧ v = .int .i64 i ∧ i ≤ ts.length ∧ e ≤ s.size ∧ Below w1.heap.size w1 wx ∧ Hid (PlOk s.data.toList e (ts.drop i))) (fun _ v _ => ts.length - (intOf v).toNat)
    case atStart => exact ⟨0, 0, rfl, rfl, Nat.zero_le _, Nat.zero_le _, Below.refl _ _, HP⟩
    case round =>
      obtain ⟨e, i, rfl, rfl, hi, he, hbw, hP⟩ := hrel
      by_cases hlt : i < ts.length
      · obtain ⟨g, rfl, hg⟩ := HM.out i hlt
        obtain ⟨t, ht⟩ : ∃ t, ts[i]? = some t := ⟨ts[i], List.getElem?_eq_getElem hlt⟩
        obtain ⟨k0, k1, k2⟩ := tok_cells HO.out hbw hg ht
        have hd : ts.drop i = t :: ts.drop (i + 1) := by
          rw [List.drop_eq_getElem_cons hlt]
          congr 1
          rw [List.getElem?_eq_getElem hlt] at ht
          exact Option.some.inj ht
        have hP2 := hP.out
        rw [hd] at hP2
        obtain ⟨f1, f2, f3, f4, f5, f6⟩ := hP2
        obtain ⟨tk, tt, ta⟩ := t
        simp only at k0 k1 k2 f1 f2 f3 f4 f5 f6
        have hext := extract_mk s ta tt.length
        rw [f5] at hext
        have hsz : (⟨tt.toArray⟩ : ByteArray).size = tt.length := by simp [ByteArray.size]
        have hpos : 0 < tt.length := List.length_pos_iff.2 f3
        have hne : (⟨tt.toArray⟩ : ByteArray).toList.isEmpty = false := by
          rw [Lib.toList_data]
          cases tt with
          | nil => exact absurd rfl f3
          | cons a b => rfl
        have hxe : (s.extract e ta).data.toList = (s.data.toList.drop e).take (ta - e) := Lib.extract_data _ _ _
        have hxl : (s.extract e ta).size = ta - e := by rw [Lib.size_eq (s.extract _ _), hxe, List.length_take, List.length_drop, ← Lib.size_eq]; rw [← Lib.size_eq] at f4; omega
        have cB := fun W => blank_any (s.extract e ta) W (by rw [hxl]; rw [← Lib.size_eq] at f4; omega)
        rw [hxe, f2, hxl, decide_eq_true rfl] at cB
        rw [← Lib.size_eq] at f4
        obtain ⟨T, hT⟩ : ∃ T : ByteArray, (⟨tt.toArray⟩ : ByteArray) = T := ⟨_, rfl⟩
        rw [hT] at k1 hext hsz hne
        obtain ⟨M, hM⟩ : ∃ M, tt.length = M := ⟨_, rfl⟩
        rw [hM] at hext hsz hpos f4 f6
        have HF6 := Lib.hid f6
        have HX := Lib.hid hext
        have Q1 : decide (ta < e) = false := by simp; omega
        have Q4 : ((s.extract ta (ta + M)).toList == T.toList) = true := by rw [hext]; simp
        clear hxe hxl hext hd hT hM f2 f3 f5 f6 hP
        have X1 : IntKind.i64.wrap ((ta : Int) + (M : Int)) = (ta : Int) + (M : Int) := IntWalk.i64_in _ (by omega)
        have X2 : 0 ≤ (ta : Int) + (M : Int) := by omega
        have X3 : ((ta : Int) + (M : Int)).toNat = ta + M := by omega
        have Q3 : decide ((ta : Int) + (M : Int) > (s.size : Int)) = false := by simp; omega
        go_wp2_with fail
        go_quiet ((go_at_call 14; exact Calls.quiet_of_same (cB _)))
        clear X1 X2 X3 Q1 Q3 Q4 hne k0 k1 k2
        go_wp2
        go_roundw
        case rel => exact ⟨ta + M, i + 1, by go_num, by go_num, by omega, by omega, bdn (hbw.alloc hbw.size _) _, HF6⟩
        case measure => simp [intOf]; omega
      · have hd : ts.drop i = [] := List.drop_eq_nil_of_le (by omega)
        have hP2 := hP.out
        rw [hd] at hP2
        unfold PlOk at hP2
        have hxe : (s.extract e s.size).data.toList = s.data.toList.drop e := Lib.extract_to_end _ _
        have hxl : (s.extract e s.size).size = s.size - e := by rw [Lib.size_eq (s.extract _ _), hxe, List.length_drop, ← Lib.size_eq]
        have cB := blank_any (s.extract e s.size) wr (by omega)
        rw [hxe, hxl, hP2, List.length_drop, ← Lib.size_eq, decide_eq_true rfl] at cB
        clear hd hP2 hxe hxl hP
        go_wp2_with (first | (go_at_call 14; (with_reducible refine cB.mono ?_); rintro e w2 ⟨rfl, rfl⟩) | (go_at_call 12; (with_reducible refine (c3 _ (tr hb1 hbw)).mono ?_); rintro e w3 ⟨rfl, hb3⟩))
        go_ret
        exact ⟨rfl, tr (tr hb1 hbw) hb3⟩

set_option maxRecDepth 100000 in
theorem lawPlaces_lifted (os : Os) (started : os.Started) (H : Type) (enc : TypeId × Value → H) :
    ReturnsInHanded {} Tryd.checked os 4 .any (fun w args => (Rows.lexerPlacesSpec.pre enc Tryd.prog Tryd.f4 [] false w args ∧ laidMetH Tryd.prog seatLaid w) ∧ sizedMet enc Tryd.prog Tryd.f4 (OpenSpec.ofChange Rows.lexerPlacesSpec) false w args)
      (Rows.lexerPlacesSpec.post enc Tryd.prog Tryd.f4 false true false false) := by
  refine returnsInHanded_of_change_and (C := Tryd.checked) (X := fun w _ => laidMetH Tryd.prog seatLaid w) (fun _ _ _ hh h => h.of_heap hh) s_own started (by kernel_rfl) Tryd.func4
    (ChangeSpec.witness_shaped (enc := enc) (C := Tryd.checked) (os := os) (X := fun w _ => laidMetH Tryd.prog seatLaid w) false (seatWorld os) #[.string ⟨#[]⟩] 8 (seatWorld_os os) (seatWorld_shaped os #[.string ⟨#[]⟩]) (by kernel_rfl) (by kernel_rfl) (by kernel_rfl) (seatWorld_call os #[.string ⟨#[]⟩])) ?_
  intro W base args ds gs before hval0 hW _ hsz0 hL _
  have hval : ∀ (j : Nat) t v, Tryd.f4.params[j]? = some t → args[j]? = some v → Value.okWide Tryd.prog W .any base t v := hval0
  have hsz : (DataW.weightsEach Tryd.prog (Tryd.f4.params.toList ++ Rows.lexerPlacesSpec.plain.varTypes Tryd.prog) (ds ++ gs)).all (· ≤ reachBytes) = true := hsz0
  have hW' := hW
  obtain ⟨p, q, hA0, hV, rfl, _, _⟩ := hW
  have hA : DataW.TrodAll enc Tryd.prog W 0 (fun _ => true) true Tryd.f4.params.toList args.toList ds p := hA0
  rw [Tryd.params4] at hA hval hsz
  obtain ⟨v0, d0, rfl, rfl, h0⟩ := trodAll_one hA
  obtain ⟨rfl, rfl⟩ := trodVars_none hV
  obtain ⟨s, rfl, rfl, rfl, hs⟩ := open_string Tryd.underlying9 (hval 0 9 v0 rfl rfl) h0
  simp only [List.append_nil] at hW'
  have hreach := sized_string hsz (j := 0) (t := 9) rfl rfl
  refine (lawPlaces_walk s W (by rw [Lib.size_eq]; simp only [reachBytes] at hreach; omega) (gl_of_laid hL) (glE_of_laid hL)).mono fun e W' ⟨he, hb⟩ => ?_
  subst he
  exact ⟨_, rfl, _, _, _, [], [], [], hW', trodAll_mk1 (shut_bool Tryd.underlying4 _), trodAll_mk1 (shut_string Tryd.underlying9 hs), rfl, hb.frame _, fun h => by cases h⟩

theorem lawPlaces_holds : Rows.LexerPlacesSaid :=
  OpenClaim.holds_of_wide 4 Tryd.f4 rfl rfl rfl rfl rfl rfl rfl ⟨rfl, rfl, rfl, rfl, rfl⟩ rfl rfl rfl rfl rfl (by kernel_rfl) Tryd.func4 (by kernel_rfl)
    (of_decide_eq_true (by kernel_rfl)) (by unfold Func.isWrapper; rw [if_neg (of_decide_eq_false (by kernel_rfl))]; exact ⟨rfl, rfl⟩)
    (fun os started H enc _ => lawPlaces_lifted os started H enc)
theorem lawPlaces_card : Rows.LexerPlacesCardSaid :=
  Claim7.holds_tied_plain_at .later [] _ _ _ _ lawPlaces_holds (fun _ h => by cases h) (by kernel_rfl) (fun _ h => by cases h) lexerPlaces_row_tie rfl ⟨rfl, rfl⟩ (by kernel_rfl) rfl
    (fun f fn hf hfn => by
      obtain rfl : f = 4 := Option.some.inj ((show Tryd.prog.funcNamed "chamfer/chamferlaw26.LexerPlaces" = some 4 by kernel_rfl).symm.trans hf) |>.symm
      obtain rfl : fn = Tryd.f4 := (Option.some.inj (Tryd.func4.symm.trans hfn)).symm
      exact ⟨by kernel_rfl, fun j t ht => by
        rw [Tryd.params4] at ht
        have hm : t ∈ [9] := by simpa using Array.mem_of_getElem? ht
        have hall : ([9].all fun u => !Tryd.prog.wantsStandIn u) = true := by kernel_rfl
        exact (show Tryd.prog.wantsStandIn t = false by simpa using List.all_eq_true.1 hall t hm)⟩)
    (by kernel_rfl)
#print axioms lawPlaces_card
end Go.Proofs.YtibnpbfggbbchaaDoor
