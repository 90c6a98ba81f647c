/- For every slice of tokens and every text, of bulk at most 1048576 together, what lexer.Join puts together lexer.Tokens reads again, and a text's tokens too: the law LexerBack returns true. Conditions: the row's bound, and that the listed variables of Go's library and errors.errorType are as the program's text lays them (the card ties them). -/
import Derived.Test.YtibnpbfggbbchaaDoorFrU
import Derived.Test.YtibnpbfggbbchaaDoorLexZc
import Derived.Test.YtibnpbfggbbchaaDoorCards
import Derived.Test.YtibnpbfggbbchaaDoorTie
import Derived.SevenTiedAt
namespace Go.Proofs.YtibnpbfggbbchaaDoor
open Go.ChangeShapes Go.WideShapes Go.RowKit Go.Lib Go.ChangeAt
open Go.ChangeMaps (open_string shut_string)

theorem joinL_bound (B : Nat) : ∀ l : List Ta, (∀ u ∈ l, u.2.1.size ≤ B) → (joinL l).length ≤ l.length * (B + 1)
  | [], _ => by simp [joinL, Lib.join_nil]
  | [u], h => by
    have := h u (by simp)
    rw [joinL_one, ← Lib.size_eq]
    simp
    omega
  | u :: v :: r, h => by
    have h1 := h u (by simp)
    have h2 := joinL_bound B (v :: r) (fun x hx => h x (List.mem_cons_of_mem _ hx))
    rw [joinL_cons2, List.length_append, List.length_cons, ← Lib.size_eq, List.length_cons (a := u), Nat.add_mul, Nat.one_mul]
    omega
theorem joinR_zero (l : List Ta) (h : (joinR l).2 = 0) : l.all okT = true ∧ l.length ≤ 4096 ∧ (joinL l).length ≤ 65536 ∧ (joinR l).1 = joinL l := by
  unfold joinR at h ⊢
  by_cases h1 : 4096 < l.length
  · rw [if_pos h1] at h; simp at h
  · rw [if_neg h1] at h
    rw [if_neg h1]
    by_cases h2 : l.all okT = true
    · rw [if_pos h2] at h
      rw [if_pos h2]
      by_cases h3 : 65536 < (joinL l).length
      · rw [if_pos h3] at h; simp at h
      · rw [if_neg h3]
        exact ⟨h2, by omega, by omega, rfl⟩
    · rw [if_neg h2] at h; simp at h
theorem joinR_ok (l : List Ta) (h1 : l.length ≤ 4096) (h2 : l.all okT = true) : joinR l = if 65536 < (joinL l).length then ([], 3) else (joinL l, 0) := by
  unfold joinR
  rw [if_neg (by omega), if_pos h2]
theorem tok_sizes (s : List UInt8) (ts : List Tk) (h : tokensL s = .ok ts) : ts.length ≤ 4096 ∧ (joinL (ts.map tka)).length ≤ 70368744177664 := by
  have h1 := tokensL_len s ts h
  have hs : s.length ≤ 65536 := by
    unfold tokensL at h
    by_cases hb : 65536 < s.length
    · rw [if_pos hb] at h; cases h
    · omega
  have h2 := joinL_bound 65536 (ts.map tka) (fun u hu => by
    obtain ⟨t, ht, rfl⟩ := List.mem_map.1 hu
    obtain ⟨i, hi, rfl⟩ := List.mem_iff_getElem.1 ht
    have h3 := tokensL_at s ts h i _ (List.getElem?_eq_getElem hi)
    have e : (tka ts[i]).2.1.size = ts[i].2.1.length := by rw [Lib.size_eq]; simp [tka]
    omega)
  rw [List.length_map] at h2
  refine ⟨h1, Nat.le_trans h2 (Nat.le_trans (Nat.mul_le_mul_right _ h1) (by decide))⟩
theorem kt_tka (ts : List Tk) : (ts.map tka).map ktA = ts.map ktT := by
  rw [List.map_map]
  exact List.map_congr_left fun t _ => by simp [ktA, ktT, tka]

theorem bulk_one {H : Type} (d : DataW H) : 1 ≤ Rows.uptoBulk d := by
  cases d with
  | lit l => cases l <;> simp [Rows.uptoBulk]
  | _ => simp [Rows.uptoBulk]
theorem bulk_len {H : Type} : ∀ l : List (DataW H), l.length ≤ Rows.uptoBulkAll l
  | [] => by simp [Rows.uptoBulkAll]
  | d :: r => by
    have h1 := bulk_one d
    have h2 := bulk_len r
    simp only [Rows.uptoBulkAll, List.length_cons]
    omega
theorem toks_len {H : Type} {enc : TypeId × Value → H} {W : World} {fuel : Nat} {a0 : Option Addr} {len cap : Nat} {d : DataW H} {p : List MemPlace}
    (h : DataW.trod enc Tryd.prog W 0 (fun _ => true) true fuel 24 [.slice a0 len cap] = some (d, p)) : len ≤ Rows.uptoBulk d := by
  rcases Go.Deep.open_slice Tryd.underlying24 h with ⟨hc, hx⟩ | ⟨a, len', cap', m, n, D, Pl, hc, hb, hl, hm, _, hx, _⟩
  · simp at hc
    omega
  · simp at hc
    obtain ⟨rfl, rfl, rfl⟩ := hc
    simp only [Prod.mk.injEq] at hx
    obtain ⟨hx1, hx2⟩ := hx
    clear hx2
    subst hx1
    have h1 := bulk_len ((List.range len).map D)
    simp only [List.length_map, List.length_range] at h1
    simp only [Rows.uptoBulk]
    omega

/-- What the two ways through LexerBack's end ask, for a text's tokens. -/
theorem lawLexerBack_walk (l : List Ta) (x : Option Addr) (c : Nat) (s : ByteArray) (w : World) (hA : ARow w x l) (hj : (joinL l).length ≤ 70368744177664) (hn : l.length ≤ 140737488355328) (hG : Gl w) (hE : GlE w) :
    Calls Tryd.prog 8 #[.slice x l.length c, .string s] w fun e w' => e = .returned (.bool true) ∧ Below w.heap.size w w' := by
  have cK := fun W (hb : Below w.heap.size w W) => wakes_any W (hG.below hb) (hE.below hb)
  have c1 := joinA_all l l.length rfl x c w hA hj hG
  -- the text's part
  have hM : ∀ ts, tokensL s.data.toList = .ok ts → (∀ W, Below w.heap.size w W → Calls Tryd.prog 13 #[.string s] W fun e w' => ∃ x k, e = .returned (.tuple #[.slice x ts.length k, .nilIface]) ∧ Below W.heap.size W w' ∧ ARow w' x (ts.map tka)) ∧
      (∀ W y k, Below w.heap.size w W → ARow W y (ts.map tka) → Calls Tryd.prog 18 #[.slice y ts.length k] W fun e w' => e = .returned (.tuple #[.string ⟨(joinR (ts.map tka)).1.toArray⟩, .int .i64 (joinR (ts.map tka)).2]) ∧ Below W.heap.size W w') := fun ts h =>
    ⟨fun W hb => tokens_ok s ts W (hG.below hb) h, fun W y k hb ha => joinA_all _ _ (List.length_map _) y k W ha (tok_sizes _ ts h).2 (hG.below hb)⟩
  have hO : ∀ ts, tokensL s.data.toList = .ok ts → (joinR (ts.map tka) = ([], 3)) ∨ (∃ us, joinR (ts.map tka) = (joinL (ts.map tka), 0) ∧ tokensL (joinL (ts.map tka)) = .ok us ∧ us.length = ts.length ∧ (ts.map tka).map ktA = (us.map tka).map ktA) := fun ts h => by
    have hok := tokensL_ok _ ts h
    have hlen := (tok_sizes _ ts h).1
    rw [joinR_ok _ (by rw [List.length_map]; exact hlen) hok]
    by_cases hb : 65536 < (joinL (ts.map tka)).length
    · rw [if_pos hb]; exact .inl rfl
    · rw [if_neg hb]
      obtain ⟨us, h1, h2⟩ := tokensL_join _ hok (by rw [List.length_map]; exact hlen) (by omega)
      refine .inr ⟨us, rfl, h1, ?_, ?_⟩
      · have := congrArg List.length h2
        simpa using this
      · rw [kt_tka us, h2]
  have hN : ∀ us (T : List UInt8), tokensL T = .ok us → ∀ n, us.length = n → ∀ W, Below w.heap.size w W → Calls Tryd.prog 13 #[.string ⟨T.toArray⟩] W fun e w' => ∃ x k, e = .returned (.tuple #[.slice x n k, .nilIface]) ∧ Below W.heap.size W w' ∧ ARow w' x (us.map tka) := fun us T h n hn W hb => by
    subst hn
    exact tokens_ok ⟨T.toArray⟩ us W (hG.below hb) (by simpa using h)
  have hQ : ∀ (ts us : List Tk) , ts.length ≤ 4096 → (ts.map tka).map ktA = (us.map tka).map ktA → ∀ W y z k j, ARow W y (ts.map tka) → ARow W z (us.map tka) → Calls Tryd.prog 20 #[.slice y ts.length k, .slice z ts.length j] W fun e w' => e = .returned (.bool true) ∧ Below W.heap.size W w' := fun ts us h1 h2 W y z k j ha hb =>
    same2_eq _ _ ts.length y z k j W (List.length_map _) (by omega) ha hb h2
  by_cases h0 : (joinR l).2 = 0
  · obtain ⟨hok, hlen, hsz, he⟩ := joinR_zero l h0
    obtain ⟨us, u1, u2⟩ := tokensL_join l hok hlen hsz
    have hul : us.length = l.length := by simpa using congrArg List.length u2
    rw [h0, he] at c1
    have cT := hN us _ u1 l.length hul
    have cS : ∀ W y k, Below w.heap.size w W → ARow W y (us.map tka) → Calls Tryd.prog 20 #[.slice y l.length k, .slice x l.length c] W fun e w' => e = .returned (.bool true) ∧ Below W.heap.size W w' := fun W y k hb ha =>
      same2_eq _ _ l.length y x k c W (by rw [List.length_map]; exact hul) hn ha (hA.below hb) (by rw [kt_tka, u2])
    cases hs : tokensL s.data.toList with
    | error f => exact back_yes_err x l.length c s _ w (us.map tka) c1 cT cS (fun W hb => tokens_err s f W (hG.below hb) hs) cK
    | ok ts =>
      obtain ⟨cM, c2⟩ := hM ts hs
      rcases hO ts hs with e | ⟨vs, e, v1, v2, v3⟩
      · rw [e] at c2
        exact back_yes_long x l.length c s _ w (us.map tka) ts.length _ (ts.map tka) c1 cT cS cM c2 cK
      · rw [e] at c2
        exact back_yes_ok x l.length c s _ w (us.map tka) ts.length _ (ts.map tka) (vs.map tka) c1 cT cS cM c2 (hN vs _ v1 ts.length v2) (hQ ts vs (tok_sizes _ ts hs).1 v3) cK
  · have Q : ((joinR l).2 == 0) = false := beq_eq_false_iff_ne.2 h0
    cases hs : tokensL s.data.toList with
    | error f => exact back_no_err x l.length c s _ w _ Q c1 (fun W hb => tokens_err s f W (hG.below hb) hs) cK
    | ok ts =>
      obtain ⟨cM, c2⟩ := hM ts hs
      rcases hO ts hs with e | ⟨vs, e, v1, v2, v3⟩
      · rw [e] at c2
        exact back_no_long x l.length c s _ w ts.length _ (ts.map tka) _ Q c1 cM c2 cK
      · rw [e] at c2
        exact back_no_ok x l.length c s _ w ts.length _ (ts.map tka) (vs.map tka) _ Q c1 cM c2 (hN vs _ v1 ts.length v2) (hQ ts vs (tok_sizes _ ts hs).1 v3) cK

set_option maxRecDepth 100000 in
theorem lawLexerBack_lifted (os : Os) (started : os.Started) (H : Type) (enc : TypeId × Value → H) (F : Stop.Interp) :
    ReturnsInHanded {} Tryd.checked os 8 .any ((Rows.OpenSpec.upto Rows.lexerBackSpec).preRow enc Tryd.prog Tryd.f8 [] false seatLaid) (((Rows.OpenSpec.upto Rows.lexerBackSpec).at F).post enc Tryd.prog Tryd.f8 false true false false) := by
  have hx : ∃ places, DataW.whole enc Tryd.prog ((seatWorld os).forCall (fun _ _ => 0) ⟨#[], #[.slice none 0 0, .string ⟨#[]⟩], []⟩).memory Tryd.f8.params.toList Rows.lexerBackSpec.vars false #[Value.slice none 0 0, .string ⟨#[]⟩].toList 8 = some ([.nil, .lit (.string [])], [], places) := ⟨[], by kernel_rfl⟩
  obtain ⟨places, hx⟩ := hx
  refine returnsInHanded_of_row (C := Tryd.checked) (s := Rows.OpenSpec.upto Rows.lexerBackSpec) s_own started (by kernel_rfl) Tryd.func8
    (s_witnessU (enc := enc) os (f := 8) (fn := Tryd.f8) #[.slice none 0 0, .string ⟨#[]⟩] (by kernel_rfl)
      (OpenSpec.preRow_of_cond 8 hx (by kernel_rfl) (fun k hk => by cases hk; kernel_rfl) (by kernel_rfl) (seatWorld_call os #[.slice none 0 0, .string ⟨#[]⟩]))) ?_
  intro W base args ds gs before hval0 hW _ hcond _ hL _ _
  have hval : ∀ (j : Nat) t v, Tryd.f8.params[j]? = some t → args[j]? = some v → Value.okWide Tryd.prog W .any base t v := hval0
  have hk : Rows.uptoSmall H (ds ++ gs) = true := hcond _ rfl
  have hW' := hW
  obtain ⟨p, q, hA0, hV, rfl, _, _⟩ := hW
  have hA : DataW.TrodAll enc Tryd.prog W 0 (fun _ => true) true Tryd.f8.params.toList args.toList ds p := hA0
  rw [Tryd.params8] at hA hval
  obtain ⟨v0, v1, d0, d1, p0, p1, rfl, rfl, rfl, h0, h1⟩ := trodAll_two hA
  obtain ⟨rfl, rfl⟩ := trodVars_none hV
  obtain ⟨a0, len, cap, rfl⟩ := okWide_slice Tryd.underlying24 (hval 0 24 v0 rfl rfl)
  obtain ⟨s, rfl, rfl, rfl, hs1⟩ := open_string Tryd.underlying9 (hval 1 9 v1 rfl rfl) h1
  have h0k := h0
  obtain ⟨fuel, hf⟩ := h0
  simp only [List.append_nil] at hW' hk
  have hlt : ∀ x ∈ p0, x.block < W.heap.size := fun x hx => by simpa using hW'.lt x hx
  have hlen := toks_len (by simpa [Value.cells] using hf)
  obtain ⟨l, rfl, hrow, hj⟩ := open_toks (by simpa [Value.cells] using hf)
  have hk2 : Rows.uptoBulkAll [d0, .lit (.string s.data.toList)] ≤ 1048576 := of_decide_eq_true hk
  simp only [Rows.uptoBulkAll] at hk2
  refine (lawLexerBack_walk l a0 cap s W hrow (by omega) (by omega) (gl_of_laid hL) (glE_of_laid hL)).mono fun e W' ⟨he, hb⟩ => ?_
  subst he
  exact ⟨_, rfl, _, _, _, [], p0 ++ [], [], hW', trodAll_mk1 (shut_bool Tryd.underlying4 _), trodAll_mk2 (Below.trod (by kernel_rfl) (by kernel_rfl) (of_decide_eq_true (by kernel_rfl)) h0k hb hlt) (shut_string Tryd.underlying9 hs1), rfl, hb.frame _, fun h => by cases h⟩

theorem lawLexerBack_holds : Rows.LexerBackUptoSaid :=
  OpenClaim.holds_of_cond 8 Tryd.f8 rfl rfl rfl rfl rfl rfl rfl ⟨rfl, rfl, rfl, rfl, rfl⟩ rfl rfl rfl rfl rfl (by kernel_rfl) Tryd.func8 (by kernel_rfl)
    (of_decide_eq_true (by kernel_rfl)) (by unfold Func.isWrapper; rw [if_neg (of_decide_eq_false (by kernel_rfl))]; exact ⟨rfl, rfl⟩)
    (fun os started H enc _ F => by rw [OpenClaim.pre_eq_preRow]; exact lawLexerBack_lifted os started H enc F)
theorem lawLexerBack_card : Rows.LexerBackUptoCardSaid :=
  Claim7.holds_tied_plain_at .later [] _ _ _ _ lawLexerBack_holds (fun _ h => by cases h) (by kernel_rfl) (fun _ h => by cases h) lexerBackUpto_row_tie rfl ⟨rfl, rfl⟩ (by kernel_rfl) rfl
    (fun f fn hf hfn => by
      obtain rfl : f = 8 := Option.some.inj ((show Tryd.prog.funcNamed "chamfer/chamferlaw26.LexerBack" = some 8 by kernel_rfl).symm.trans hf) |>.symm
      obtain rfl : fn = Tryd.f8 := (Option.some.inj (Tryd.func8.symm.trans hfn)).symm
      exact ⟨by kernel_rfl, fun j t ht => by
        rw [Tryd.params8] at ht
        have hm : t ∈ [24, 9] := by have h := Array.mem_of_getElem? ht; simpa using h
        have hall : ([24, 9].all fun u => !Tryd.prog.wantsStandIn u) = true := by kernel_rfl
        exact (show Tryd.prog.wantsStandIn t = false by simpa using List.all_eq_true.1 hall t hm)⟩)
    (by kernel_rfl)
#print axioms lawLexerBack_card
end Go.Proofs.YtibnpbfggbbchaaDoor
