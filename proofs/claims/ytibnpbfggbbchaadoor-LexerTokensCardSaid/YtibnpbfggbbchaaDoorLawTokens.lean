/- For every text lexer.Tokens tells the reference's tokens, or the reference's fault at the same place; what is told is the caller's: the law LexerTokens returns true. Conditions: the listed variables of Go's library and errors.errorType are as the program's text lays them (the card ties them). -/
import Derived.Test.YtibnpbfggbbchaaDoorFr
import Derived.Test.YtibnpbfggbbchaaDoorLexU
import Derived.Test.YtibnpbfggbbchaaDoorCards
import Derived.Test.YtibnpbfggbbchaaDoorTie
import Derived.SevenTiedAt
namespace Go.Proofs.YtibnpbfggbbchaaDoor
open Go.ChangeShapes Go.WideShapes Go.RowKit Go.Lib Go.ChangeAt
open Go.ChangeMaps (open_string shut_string)

theorem rtokens_all (s : ByteArray) (w : World) (hG : Gl w) : Calls Tryd.prog 15 #[.string s] w (RTokEnd (tokensL s.data.toList) w) := by
  by_cases h : s.size ≤ 65536
  · exact rtokens_any s w h hG
  · exact rtokens_long s w (by omega)
theorem TokRow.setCell {w : World} {x : Option Addr} {ts : List Tk} (h : TokRow w x ts) (p : Addr) (v : Value) (hp : ∀ g, x = some ⟨g, 0, none⟩ → g ≠ p.block) : TokRow (w.setCell p v) x ts := by
  intro i u hu
  obtain ⟨g, h1, h2, h3, h4⟩ := h i u hu
  have hg := hp g h1
  have e : ∀ o, (w.setCell p v).cell? ⟨g, o, none⟩ = w.cell? ⟨g, o, none⟩ := fun o => World.cell?_of_block (Below.heap_setCell w p v g hg)
  exact ⟨g, h1, (e _).trans h2, (e _).trans h3, (e _).trans h4⟩
theorem TokRow.nil (w : World) (x : Option Addr) : TokRow w x [] := fun i u h => by simp at h

set_option maxHeartbeats 4000000 in
set_option maxRecDepth 100000 in
theorem lawLexerTokens_walk (s : ByteArray) (w : World) (_hs : s.size ≤ 140737488355328) (hG : Gl w) (hE : GlE w) :
    Calls Tryd.prog 6 #[.string s] w fun e w' => e = .returned (.bool true) ∧ Below w.heap.size w w' := by
  have c1 := fun W (hb : Below w.heap.size w W) => tokens_all s W (hG.below hb)
  have c2 := fun W (hb : Below w.heap.size w W) => rtokens_all s W (hG.below hb)
  have cW := fun W (hb : Below w.heap.size w W) => wakes_any W (hG.below hb) (hE.below hb)
  have hE2 := fun W (hb : Below w.heap.size w W) => hE.below hb
  have hla := tokensL_len s.data.toList
  clear hG hE
  obtain ⟨R, hR⟩ : ∃ R, tokensL s.data.toList = R := ⟨_, rfl⟩
  rw [hR] at c1 c2 hla
  clear hR
  have hb0 := Below.refl w.heap.size w
  cases R with
  | error f =>
    clear hla
    obtain ⟨fc, fp, ft⟩ := f
    have cS := fun W => same_eq [] none none 0 0 W (by simp) (TokRow.nil W none) (TokRow.nil W none)
    simp only [List.length_nil] at cS
    go_enter Tryd.func6, Tryd.ntmps6
    go_wp2_with fail
    refine (c1 _ hb0).mono ?_
    rintro e w1 ⟨hb1, b1, hg1, rfl, hc1⟩
    go_wp2_with fail
    refine (c2 _ hb1).mono ?_
    rintro e w2 ⟨hb2, b2, hg2, rfl, hc2⟩
    simp only at hc1 hc2
    have hl1 : b1 < w1.heap.size := (Array.getElem?_eq_some_iff.1 hc1).1
    have hl2 : b2 < w2.heap.size := (Array.getElem?_eq_some_iff.1 hc2).1
    have cT := fun W (hb3 : Below w2.heap.size w2 W) => told_hit fc fp ⟨ft.toArray⟩ b1 b2 W (hE2 W (tr (tr hb1 hb2) hb3)) (by rw [hb3.block b1 (by have := hb2.size; omega), hb2.block b1 hl1]; exact hc1) (by rw [hb3.block b2 hl2]; exact hc2)
    clear hc1 hc2 hE2
    go_wp2_with (first | (go_at_call 16; (with_reducible refine (cS _).mono ?_); rintro e w3 ⟨rfl, hb3⟩) | (go_at_call 17; (with_reducible refine (cT _ hb3).mono ?_); rintro e w4 ⟨rfl, hb4⟩))
    refine wp_loop_rounds 1 ?_
    rw [rounds_succ]
    have hb5 : Below w.heap.size w w4 := tr (tr (tr hb1 hb2) hb3) hb4
    go_wp2_with (first | (go_at_call 13; (with_reducible refine (c1 _ hb5).mono ?_); rintro e w5 ⟨hb6, b3, _, rfl, _⟩) | (go_at_call 16; (with_reducible refine (cS _).mono ?_); rintro e w6 ⟨rfl, hb7⟩) | (go_at_call 12; (with_reducible refine (cW _ (tr (tr hb5 hb6) hb7)).mono ?_); rintro e w7 ⟨rfl, hb8⟩))
    go_ret
    exact ⟨rfl, tr (tr (tr hb5 hb6) hb7) hb8⟩
  | ok ts =>
    have hn := hla ts rfl
    clear hla hE2
    have cS := fun W xa xb ca cb => same_eq ts xa xb ca cb W hn
    have cT := told_nil
    go_enter Tryd.func6, Tryd.ntmps6
    go_wp2_with fail
    refine (c1 _ hb0).mono ?_
    rintro e w1 ⟨hb1, va, rfl, hoa⟩
    go_wp2_with fail
    refine (c2 _ hb1).mono ?_
    rintro e w2 ⟨hb2, vb, rfl, hob⟩
    obtain ⟨xa, ca, rfl⟩ := own_shape hoa
    obtain ⟨xb, cb, rfl⟩ := own_shape hob
    have ra := (tokRow_own hoa).below hb2
    have rb := tokRow_own hob
    have cS1 := cS w2 xa xb ca cb ra rb
    have HO := Lib.hid (own_below hoa hb2)
    have hlt1 : ∀ g, xa = some ⟨g, 0, none⟩ → g < w1.heap.size ∧ w.heap.size ≤ g := fun g hg => by
      have h := hoa.lt g (by rw [hg]; rfl)
      exact ⟨h.2, h.1⟩
    have hlt2 : ∀ g, xb = some ⟨g, 0, none⟩ → w1.heap.size ≤ g := fun g hg => (hob.lt g (by rw [hg]; rfl)).1
    have HL1 := Lib.hid hlt1
    have HL2 := Lib.hid hlt2
    have HRB := Lib.hid rb
    clear hoa hob ra rb hlt1 hlt2
    go_wp2_with (first | (go_at_call 16; (with_reducible refine cS1.mono ?_); rintro e w3 ⟨rfl, hb3⟩) | (go_at_call 17; (with_reducible refine (cT _).mono ?_); rintro e w4 ⟨rfl, rfl⟩))
    go_loopw [7] (fun v wx => ∃ i : Nat, v = .int .i64 i ∧ i ≤ ts.length ∧ Below w.heap.size w wx ∧ (∃ xs, wx.ownsRow w.heap.size 30 3 (.slice xa ts.length ca) ts.length xs) ∧ TokRow wx xb ts) (fun v _ => ts.length - (intOf v).toNat)
    case atStart => exact ⟨0, rfl, Nat.zero_le _, tr (tr hb1 hb2) hb3, ⟨_, own_below HO.out hb3⟩, HRB.out.below hb3⟩
    case round =>
      obtain ⟨i, rfl, hi, hbw, ⟨xs, hox⟩, hrow⟩ := hrel
      by_cases hlt : i < ts.length
      · obtain ⟨g, cap, hg, _, hgl, hcell⟩ := own_some hox (by omega)
        cases hg
        have hxl : xs.length = ts.length * 3 := hox.1
        have k0 := (hcell (i * 3) (by omega)).trans (List.getElem?_eq_getElem (by omega : i * 3 < xs.length))
        have k1 := (hcell (i * 3 + 1) (by omega)).trans (List.getElem?_eq_getElem (by omega : i * 3 + 1 < xs.length))
        have k2 := (hcell (i * 3 + 2) (by omega)).trans (List.getElem?_eq_getElem (by omega : i * 3 + 2 < xs.length))
        have f0 := hox.frozenAt (i * 3)
        have f1 := hox.frozenAt (i * 3 + 1)
        have f2 := hox.frozenAt (i * 3 + 2)
        have HX := Lib.hid hox
        have HRW := Lib.hid hrow
        obtain ⟨y0, hy0⟩ : ∃ y0, xs[i * 3]'(by omega) = y0 := ⟨_, rfl⟩
        obtain ⟨y1, hy1⟩ : ∃ y1, xs[i * 3 + 1]'(by omega) = y1 := ⟨_, rfl⟩
        obtain ⟨y2, hy2⟩ : ∃ y2, xs[i * 3 + 2]'(by omega) = y2 := ⟨_, rfl⟩
        rw [hy0] at k0
        rw [hy1] at k1
        rw [hy2] at k2
        clear hox hcell hrow hxl hy0 hy1 hy2
        go_wp2
        have hgg := HL1.out g rfl
        have hne : ∀ g', xb = some ⟨g', 0, none⟩ → g' ≠ g := fun g' hg' => by have := HL2.out g' hg'; omega
        go_roundw
        case rel =>
          refine ⟨i + 1, by go_num, by omega, ((hbw.setCell (p := ⟨g, i * 3, none⟩) hgg.2 _).setCell (p := ⟨g, i * 3 + 1, none⟩) hgg.2 _).setCell (p := ⟨g, i * 3 + 2, none⟩) hgg.2 _, ⟨_, (((HX.out.stored (i * 3) _).1.stored (i * 3 + 1) _).1.stored (i * 3 + 2) _).1⟩, ?_⟩
          exact ((HRW.out.setCell ⟨g, i * 3, none⟩ _ hne).setCell ⟨g, i * 3 + 1, none⟩ _ hne).setCell ⟨g, i * 3 + 2, none⟩ _ hne
        case measure => simp [intOf]; omega
      · clear hox hi
        have HRW := Lib.hid hrow
        clear hrow
        go_wp2_with fail
        refine (c1 _ hbw).mono ?_
        rintro e w5 ⟨hb5, vc, rfl, hoc⟩
        obtain ⟨xc, cc, rfl⟩ := own_shape hoc
        have cS2 := cS w5 xc xb cc cb (tokRow_own hoc) (HRW.out.below hb5)
        clear hoc c1 c2 cS cS1
        go_wp2_with (first | (go_at_call 16; (with_reducible refine cS2.mono ?_); rintro e w6 ⟨rfl, hb6⟩) | (go_at_call 12; (with_reducible refine (cW _ (tr (tr hbw hb5) hb6)).mono ?_); rintro e w7 ⟨rfl, hb7⟩))
        go_ret
        exact ⟨rfl, tr (tr (tr hbw hb5) hb6) hb7⟩

set_option maxRecDepth 100000 in
theorem lawLexerTokens_lifted (os : Os) (started : os.Started) (H : Type) (enc : TypeId × Value → H) :
    ReturnsInHanded {} Tryd.checked os 6 .any (fun w args => (Rows.lexerTokensSpec.pre enc Tryd.prog Tryd.f6 [] false w args ∧ laidMetH Tryd.prog seatLaid w) ∧ sizedMet enc Tryd.prog Tryd.f6 (OpenSpec.ofChange Rows.lexerTokensSpec) false w args)
      (Rows.lexerTokensSpec.post enc Tryd.prog Tryd.f6 false true false false) := by
  refine returnsInHanded_of_change_and (C := Tryd.checked) (X := fun w _ => laidMetH Tryd.prog seatLaid w) (fun _ _ _ hh h => h.of_heap hh) s_own started (by kernel_rfl) Tryd.func6
    (ChangeSpec.witness_shaped (enc := enc) (C := Tryd.checked) (os := os) (X := fun w _ => laidMetH Tryd.prog seatLaid w) false (seatWorld os) #[.string ⟨#[]⟩] 8 (seatWorld_os os) (seatWorld_shaped os #[.string ⟨#[]⟩]) (by kernel_rfl) (by kernel_rfl) (by kernel_rfl) (seatWorld_call os #[.string ⟨#[]⟩])) ?_
  intro W base args ds gs before hval0 hW _ hsz0 hL _
  have hval : ∀ (j : Nat) t v, Tryd.f6.params[j]? = some t → args[j]? = some v → Value.okWide Tryd.prog W .any base t v := hval0
  have hsz : (DataW.weightsEach Tryd.prog (Tryd.f6.params.toList ++ Rows.lexerTokensSpec.plain.varTypes Tryd.prog) (ds ++ gs)).all (· ≤ reachBytes) = true := hsz0
  have hW' := hW
  obtain ⟨p, q, hA0, hV, rfl, _, _⟩ := hW
  have hA : DataW.TrodAll enc Tryd.prog W 0 (fun _ => true) true Tryd.f6.params.toList args.toList ds p := hA0
  rw [Tryd.params6] at hA hval hsz
  obtain ⟨v0, d0, rfl, rfl, h0⟩ := trodAll_one hA
  obtain ⟨rfl, rfl⟩ := trodVars_none hV
  obtain ⟨s, rfl, rfl, rfl, hs0⟩ := open_string Tryd.underlying9 (hval 0 9 v0 rfl rfl) h0
  simp only [List.append_nil] at hW'
  have hr0 := sized_string hsz (j := 0) (t := 9) rfl rfl
  refine (lawLexerTokens_walk s W (by rw [Lib.size_eq]; simp only [reachBytes] at hr0; omega) (gl_of_laid hL) (glE_of_laid hL)).mono fun e W' ⟨he, hb⟩ => ?_
  subst he
  exact ⟨_, rfl, _, _, _, [], [], [], hW', trodAll_mk1 (shut_bool Tryd.underlying4 _), trodAll_mk1 (shut_string Tryd.underlying9 hs0), rfl, hb.frame _, fun h => by cases h⟩

theorem lawLexerTokens_holds : Rows.LexerTokensSaid :=
  OpenClaim.holds_of_wide 6 Tryd.f6 rfl rfl rfl rfl rfl rfl rfl ⟨rfl, rfl, rfl, rfl, rfl⟩ rfl rfl rfl rfl rfl (by kernel_rfl) Tryd.func6 (by kernel_rfl)
    (of_decide_eq_true (by kernel_rfl)) (by unfold Func.isWrapper; rw [if_neg (of_decide_eq_false (by kernel_rfl))]; exact ⟨rfl, rfl⟩)
    (fun os started H enc _ => lawLexerTokens_lifted os started H enc)
theorem lawLexerTokens_card : Rows.LexerTokensCardSaid :=
  Claim7.holds_tied_plain_at .later [] _ _ _ _ lawLexerTokens_holds (fun _ h => by cases h) (by kernel_rfl) (fun _ h => by cases h) lexerTokens_row_tie rfl ⟨rfl, rfl⟩ (by kernel_rfl) rfl
    (fun f fn hf hfn => by
      obtain rfl : f = 6 := Option.some.inj ((show Tryd.prog.funcNamed "chamfer/chamferlaw26.LexerTokens" = some 6 by kernel_rfl).symm.trans hf) |>.symm
      obtain rfl : fn = Tryd.f6 := (Option.some.inj (Tryd.func6.symm.trans hfn)).symm
      exact ⟨by kernel_rfl, fun j t ht => by
        rw [Tryd.params6] at ht
        have hm : t ∈ [9] := by simpa using Array.mem_of_getElem? ht
        have hall : ([9].all fun u => !Tryd.prog.wantsStandIn u) = true := by kernel_rfl
        exact (show Tryd.prog.wantsStandIn t = false by simpa using List.all_eq_true.1 hall t hm)⟩)
    (by kernel_rfl)
#print axioms lawLexerTokens_card
end Go.Proofs.YtibnpbfggbbchaaDoor
