/- For every two texts the tokens of the two texts on two lines are those of the first one, and those of the second one further on: the law LexerLines returns true. Conditions: the listed variables of Go's library and errors.errorType are as the program's text lays them (the card ties them). -/
import Derived.Test.YtibnpbfggbbchaaDoorFr
import Derived.Test.YtibnpbfggbbchaaDoorLexQ
import Derived.Test.YtibnpbfggbbchaaDoorTokCells
import Derived.Test.YtibnpbfggbbchaaDoorCards
import Derived.Test.YtibnpbfggbbchaaDoorTie
import Derived.SevenTiedAt
import Derived.Lib.SmallJoins
namespace Go.Proofs.YtibnpbfggbbchaaDoor
open Go.ChangeShapes Go.WideShapes Go.RowKit Go.Lib Go.ChangeAt
open Go.ChangeMaps (open_string shut_string)

set_option maxHeartbeats 4000000 in
set_option maxRecDepth 100000 in
theorem lawLexerLines_walk (s t : ByteArray) (w : World) (hs : s.size ≤ 140737488355328) (ht : t.size ≤ 140737488355328) (hG : Gl w) (hE : GlE w) :
    Calls Tryd.prog 5 #[.string s, .string t] w fun e w' => e = .returned (.bool true) ∧ Below w.heap.size w w' := by
  have c1 := tokens_all s w hG
  have c2 := fun W (hb : Below w.heap.size w W) => tokens_all t W (hG.below hb)
  have c3 := fun W (hb : Below w.heap.size w W) X => tokens_all X W (hG.below hb)
  have cW := fun W (hb : Below w.heap.size w W) => wakes_any W (hG.below hb) (hE.below hb)
  have hlines := tokens_lines s.data.toList t.data.toList
  have hla := tokensL_len s.data.toList
  have hlb := tokensL_len t.data.toList
  have hab := tokensL_at t.data.toList
  clear hG hE
  obtain ⟨R1, hR1⟩ : ∃ R, tokensL s.data.toList = R := ⟨_, rfl⟩
  obtain ⟨R2, hR2⟩ : ∃ R, tokensL t.data.toList = R := ⟨_, rfl⟩
  rw [hR1] at c1 hlines hla
  rw [hR2] at c2 hlines hlb hab
  clear hR1 hR2
  rw [← Lib.size_eq, ← Lib.size_eq] at hlines
  cases R1 with
  | error f =>
    clear hlines hla hlb hab c3
    cases R2 with
    | error f2 =>
      go_enter Tryd.func5, Tryd.ntmps5
      go_wp2_with (first | (go_at_call 13; (with_reducible refine c1.mono ?_); rintro e w1 ⟨hb1, b, _, rfl, _⟩) | (go_at_call 13; (with_reducible refine (c2 _ hb1).mono ?_); rintro e w2 ⟨hb2, b2, _, rfl, _⟩) | (go_at_call 12; (with_reducible refine (cW _ (tr hb1 hb2)).mono ?_); rintro e w3 ⟨rfl, hb3⟩))
      go_ret
      exact ⟨rfl, tr (tr hb1 hb2) hb3⟩
    | ok b =>
      go_enter Tryd.func5, Tryd.ntmps5
      go_wp2_with (first | (go_at_call 13; (with_reducible refine c1.mono ?_); rintro e w1 ⟨hb1, b, _, rfl, _⟩) | (go_at_call 13; (with_reducible refine (c2 _ hb1).mono ?_); rintro e w2 ⟨hb2, b2, rfl, _⟩) | (go_at_call 12; (with_reducible refine (cW _ (tr hb1 hb2)).mono ?_); rintro e w3 ⟨rfl, hb3⟩))
      go_ret
      exact ⟨rfl, tr (tr hb1 hb2) hb3⟩
  | ok a =>
    have hna := hla a rfl
    clear hla
    cases R2 with
    | error f2 =>
      clear hlines hlb hab c3
      go_enter Tryd.func5, Tryd.ntmps5
      go_wp2_with (first | (go_at_call 13; (with_reducible refine c1.mono ?_); rintro e w1 ⟨hb1, b, rfl, _⟩) | (go_at_call 13; (with_reducible refine (c2 _ hb1).mono ?_); rintro e w2 ⟨hb2, b2, _, rfl, _⟩) | (go_at_call 12; (with_reducible refine (cW _ (tr hb1 hb2)).mono ?_); rintro e w3 ⟨rfl, hb3⟩))
      go_ret
      exact ⟨rfl, tr (tr hb1 hb2) hb3⟩
    | ok b =>
      have hnb := hlb b rfl
      have HAB := Lib.hid (hab b rfl)
      clear hlb hab
      have hl2 := hlines a b rfl rfl
      clear hlines
      go_enter Tryd.func5, Tryd.ntmps5
      go_wp2_with fail
      refine c1.mono ?_
      rintro e w1 ⟨hb1, va, rfl, hoa⟩
      go_wp2_with fail
      refine (c2 _ hb1).mono ?_
      rintro e w2 ⟨hb2, vb, rfl, hob⟩
      obtain ⟨xa, ca, rfl⟩ := own_shape hoa
      obtain ⟨xb, cb, rfl⟩ := own_shape hob
      clear c1 c2
      by_cases q1 : s.size + t.size < 65536
      · by_cases q2 : a.length + b.length ≤ 4096
        · have hl3 := hl2 q1 q2
          have Q1 : decide ((s.size : Int) + (t.size : Int) ≥ 65536) = false := by simp; omega
          have Q2 : decide ((a.length : Int) + (b.length : Int) > 4096) = false := by simp; omega
          have hX : (s ++ (⟨#[10]⟩ : ByteArray) ++ t).data.toList = s.data.toList ++ 10 :: t.data.toList := by
            rw [Joins.data_append, Joins.data_append]
            simp
          have cX := c3 w2 (tr hb1 hb2) (s ++ (⟨#[10]⟩ : ByteArray) ++ t)
          rw [hX, hl3] at cX
          have hcs : ∀ i u, a[i]? = some u → (a ++ b.map (shift (s.size + 1)))[i]? = some u := fun i u h => by
            rw [List.getElem?_append_left ((List.getElem?_eq_some_iff.1 h).1)]; exact h
          have hcs2 : ∀ i u, a.length ≤ i → b[i - a.length]? = some u → (a ++ b.map (shift (s.size + 1)))[i]? = some (shift (s.size + 1) u) := fun i u h1 h => by
            rw [List.getElem?_append_right h1, List.getElem?_map, h]; rfl
          have hcl : (a ++ b.map (shift (s.size + 1))).length = a.length + b.length := by simp
          obtain ⟨cs, hcs0⟩ : ∃ cs, a ++ b.map (shift (s.size + 1)) = cs := ⟨_, rfl⟩
          rw [hcs0] at cX hcs hcs2 hcl
          have hca : a.length ≤ cs.length := by omega
          have hcn : cs.length ≤ 4096 := by omega
          have Q3 : ((cs.length : Int) != (a.length : Int) + (b.length : Int)) = false := by rw [hcl]; simp
          have HCL := Lib.hid hcl
          have HCS := Lib.hid hcs
          have HCS2 := Lib.hid hcs2
          have HA := Lib.hid hoa
          have HB := Lib.hid hob
          clear hl2 hl3 hoa hob hX hcs hcs2 hcl hcs0 c3
          go_wp2_with (first | (go_at_call 13; (with_reducible refine cX.mono ?_); rintro e w3 ⟨hb3, vc, rfl, hoc⟩; obtain ⟨xc, cc, rfl⟩ := own_shape hoc; have HC := Lib.hid hoc; clear hoc))
          have hbw1 : Below w1.heap.size w1 w3 := tr hb2 hb3
          go_loopw [11] (fun v wx => ∃ i : Nat, v = .int .i64 i ∧ i ≤ cs.length ∧ Below w3.heap.size w3 wx) (fun v _ => cs.length - (intOf v).toNat)
          case atStart => exact ⟨0, rfl, Nat.zero_le _, Below.refl _ _⟩
          case round =>
            obtain ⟨i, rfl, hi, hbw⟩ := hrel
            by_cases hlt : i < cs.length
            · obtain ⟨gc, cc', hgc, _, hgc2, _⟩ := own_some HC.out (by omega)
              cases hgc
              have hlc := HCL.out
              by_cases hia : i < a.length
              · obtain ⟨ga, ca', hga, _, hga2, _⟩ := own_some HA.out (by omega)
                cases hga
                obtain ⟨u, hu⟩ : ∃ u, a[i]? = some u := ⟨a[i], List.getElem?_eq_getElem hia⟩
                obtain ⟨k0, k1, k2⟩ := tok_cells HA.out (tr hbw1 hbw) hga2 hu
                obtain ⟨j0, j1, j2⟩ := tok_cells HC.out hbw hgc2 (HCS.out i u hu)
                obtain ⟨uk, ut, ua⟩ := u
                simp only at k0 k1 k2 j0 j1 j2
                have a0 := al_cell k0
                have a1 := al_cell k1
                have a2 := al_cell k2
                have b0 := al_cell j0
                have b1 := al_cell j1
                have b2 := al_cell j2
                clear hlc k0 k1 k2 j0 j1 j2 hu
                go_wp2_with fail
                go_quiet (fail)
                go_wp2
                go_roundw
                case rel => exact ⟨i + 1, by go_num, by omega, bdn (hbw.alloc hbw.size _) _⟩
                case measure => simp [intOf]; omega
              · obtain ⟨j, hj⟩ : ∃ j, i - a.length = j := ⟨_, rfl⟩
                have hij : (i : Int) - (a.length : Int) = (j : Int) := by omega
                obtain ⟨gb, cb', hgb, _, hgb2, _⟩ := own_some HB.out (by omega)
                cases hgb
                have hjb : j < b.length := by omega
                obtain ⟨u, hu⟩ : ∃ u, b[j]? = some u := ⟨b[j], List.getElem?_eq_getElem hjb⟩
                obtain ⟨k0, k1, k2⟩ := tok_cells HB.out (tr hb3 hbw) hgb2 hu
                obtain ⟨j0, j1, j2⟩ := tok_cells HC.out hbw hgc2 (HCS2.out i u (by omega) (by rw [hj]; exact hu))
                obtain ⟨uk, ut, ua⟩ := u
                simp only [shift] at k0 k1 k2 j0 j1 j2
                have hua := HAB.out j _ hu
                simp only at hua
                rw [← Lib.size_eq] at hua
                have e3 : ((ua + (s.size + 1) : Nat) : Int) = (ua : Int) + (s.size : Int) + 1 := by omega
                rw [e3] at j2
                have hia2 : decide (i < a.length) = false := by simp; omega
                have a0 := al_cell k0
                have a1 := al_cell k1
                have a2 := al_cell k2
                have b0 := al_cell j0
                have b1 := al_cell j1
                have b2 := al_cell j2
                clear hlc k0 k1 k2 j0 j1 j2 hu hj e3
                go_wp2_with fail
                go_quiet (fail)
                go_wp2
                go_roundw
                case rel => exact ⟨i + 1, by go_num, by omega, bdn (hbw.alloc hbw.size _) _⟩
                case measure => simp [intOf]; omega
            · clear hi
              go_wp2_with (first | (go_at_call 12; (with_reducible refine (cW _ (tr hb1 (tr hbw1 hbw))).mono ?_); rintro e w3 ⟨rfl, hb4⟩))
              go_ret
              exact ⟨rfl, tr (tr hb1 (tr hbw1 hbw)) hb4⟩
        · have Q1 : decide ((s.size : Int) + (t.size : Int) ≥ 65536) = false := by simp; omega
          have Q2 : decide ((a.length : Int) + (b.length : Int) > 4096) = true := by simp; omega
          clear hl2 hoa hob c3
          go_wp2_with (first | (go_at_call 12; (with_reducible refine (cW _ (tr hb1 hb2)).mono ?_); rintro e w3 ⟨rfl, hb3⟩))
          go_ret
          exact ⟨rfl, tr (tr hb1 hb2) hb3⟩
      · have Q1 : decide ((s.size : Int) + (t.size : Int) ≥ 65536) = true := by simp; omega
        clear hl2 hoa hob c3
        go_wp2_with (first | (go_at_call 12; (with_reducible refine (cW _ (tr hb1 hb2)).mono ?_); rintro e w3 ⟨rfl, hb3⟩))
        go_ret
        exact ⟨rfl, tr (tr hb1 hb2) hb3⟩

set_option maxRecDepth 100000 in
theorem lawLexerLines_lifted (os : Os) (started : os.Started) (H : Type) (enc : TypeId × Value → H) :
    ReturnsInHanded {} Tryd.checked os 5 .any (fun w args => (Rows.lexerLinesSpec.pre enc Tryd.prog Tryd.f5 [] false w args ∧ laidMetH Tryd.prog seatLaid w) ∧ sizedMet enc Tryd.prog Tryd.f5 (OpenSpec.ofChange Rows.lexerLinesSpec) false w args)
      (Rows.lexerLinesSpec.post enc Tryd.prog Tryd.f5 false true false false) := by
  refine returnsInHanded_of_change_and (C := Tryd.checked) (X := fun w _ => laidMetH Tryd.prog seatLaid w) (fun _ _ _ hh h => h.of_heap hh) s_own started (by kernel_rfl) Tryd.func5
    (ChangeSpec.witness_shaped (enc := enc) (C := Tryd.checked) (os := os) (X := fun w _ => laidMetH Tryd.prog seatLaid w) false (seatWorld os) #[.string ⟨#[]⟩, .string ⟨#[]⟩] 8 (seatWorld_os os) (seatWorld_shaped os #[.string ⟨#[]⟩, .string ⟨#[]⟩]) (by kernel_rfl) (by kernel_rfl) (by kernel_rfl) (seatWorld_call os #[.string ⟨#[]⟩, .string ⟨#[]⟩])) ?_
  intro W base args ds gs before hval0 hW _ hsz0 hL _
  have hval : ∀ (j : Nat) t v, Tryd.f5.params[j]? = some t → args[j]? = some v → Value.okWide Tryd.prog W .any base t v := hval0
  have hsz : (DataW.weightsEach Tryd.prog (Tryd.f5.params.toList ++ Rows.lexerLinesSpec.plain.varTypes Tryd.prog) (ds ++ gs)).all (· ≤ reachBytes) = true := hsz0
  have hW' := hW
  obtain ⟨p, q, hA0, hV, rfl, _, _⟩ := hW
  have hA : DataW.TrodAll enc Tryd.prog W 0 (fun _ => true) true Tryd.f5.params.toList args.toList ds p := hA0
  rw [Tryd.params5] at hA hval hsz
  obtain ⟨v0, v1, d0, d1, p0, p1, rfl, rfl, rfl, h0, h1⟩ := trodAll_two hA
  obtain ⟨rfl, rfl⟩ := trodVars_none hV
  obtain ⟨s, rfl, rfl, rfl, hs0⟩ := open_string Tryd.underlying9 (hval 0 9 v0 rfl rfl) h0
  obtain ⟨t, rfl, rfl, rfl, hs1⟩ := open_string Tryd.underlying9 (hval 1 9 v1 rfl rfl) h1
  simp only [List.append_nil] at hW'
  have hr0 := sized_string hsz (j := 0) (t := 9) rfl rfl
  have hr1 := sized_string hsz (j := 1) (t := 9) rfl rfl
  refine (lawLexerLines_walk s t W (by rw [Lib.size_eq]; simp only [reachBytes] at hr0; omega) (by rw [Lib.size_eq]; simp only [reachBytes] at hr1; omega) (gl_of_laid hL) (glE_of_laid hL)).mono fun e W' ⟨he, hb⟩ => ?_
  subst he
  exact ⟨_, rfl, _, _, _, [], [], [], hW', trodAll_mk1 (shut_bool Tryd.underlying4 _), trodAll_mk2 (shut_string Tryd.underlying9 hs0) (shut_string Tryd.underlying9 hs1), rfl, hb.frame _, fun h => by cases h⟩

theorem lawLexerLines_holds : Rows.LexerLinesSaid :=
  OpenClaim.holds_of_wide 5 Tryd.f5 rfl rfl rfl rfl rfl rfl rfl ⟨rfl, rfl, rfl, rfl, rfl⟩ rfl rfl rfl rfl rfl (by kernel_rfl) Tryd.func5 (by kernel_rfl)
    (of_decide_eq_true (by kernel_rfl)) (by unfold Func.isWrapper; rw [if_neg (of_decide_eq_false (by kernel_rfl))]; exact ⟨rfl, rfl⟩)
    (fun os started H enc _ => lawLexerLines_lifted os started H enc)
theorem lawLexerLines_card : Rows.LexerLinesCardSaid :=
  Claim7.holds_tied_plain_at .later [] _ _ _ _ lawLexerLines_holds (fun _ h => by cases h) (by kernel_rfl) (fun _ h => by cases h) lexerLines_row_tie rfl ⟨rfl, rfl⟩ (by kernel_rfl) rfl
    (fun f fn hf hfn => by
      obtain rfl : f = 5 := Option.some.inj ((show Tryd.prog.funcNamed "chamfer/chamferlaw26.LexerLines" = some 5 by kernel_rfl).symm.trans hf) |>.symm
      obtain rfl : fn = Tryd.f5 := (Option.some.inj (Tryd.func5.symm.trans hfn)).symm
      exact ⟨by kernel_rfl, fun j t ht => by
        rw [Tryd.params5] at ht
        have hm : t ∈ [9, 9] := by have h := Array.mem_of_getElem? ht; simpa using h
        have hall : ([9, 9].all fun u => !Tryd.prog.wantsStandIn u) = true := by kernel_rfl
        exact (show Tryd.prog.wantsStandIn t = false by simpa using List.all_eq_true.1 hall t hm)⟩)
    (by kernel_rfl)
#print axioms lawLexerLines_card
end Go.Proofs.YtibnpbfggbbchaaDoor
