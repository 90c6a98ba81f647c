/- Plain: TreeBack's law. The walk of TreeBack. Plain: what a text is parsed to is right, and not heavy. The walk of TreeAgain. A slice of nodes that came in: the tree that it is. -/
import Derived.Test.YtpbkeamjdolpgaaGreatDoorB24
import Derived.Test.YtpbkeamjdolpgaaGreatDoorB25
import Derived.Test.YtpbkeamjdolpgaaGreatDoorB04
import Derived.Test.YtpbkeamjdolpgaaGreatDoorB07
import Derived.Test.YtpbkeamjdolpgaaGreatDoorB23
import Derived.Test.YtpbkeamjdolpgaaGreatDoorB08
import Derived.Deep.Slices
import Derived.Deep.Strs
import Derived.Lib.SmallJoins
import Derived.SizedLaws
namespace Go.Proofs.YtpbkeamjdolpgaaGreatDoor

theorem check_parts {l : List Nd} (h : checkR l = 0) : deepL l 1 = none ∧ stsR l = true := by
  unfold checkR at h
  split at h
  · cases h
  · rename_i hd
    refine ⟨hd, ?_⟩
    cases hs : stsR l
    · rw [hs] at h
      cases h
    · rfl
theorem check_of {l : List Nd} (h1 : deepL l 1 = none) (h2 : stsR l = true) : checkR l = 0 := by
  unfold checkR
  rw [h1, h2]
  rfl
/-- A right tree's text is parsed to a tree that is the same but for places. -/
theorem back_parse {l : List Nd} (h : checkR l = 0) {ts : List Tk} (ht : tokensL (stsT l []) = .ok ts) : ∃ m, parseR (stsT l []) = .ok m ∧ sameL l m = true := by
  obtain ⟨h1, h2⟩ := check_parts h
  have hk := (text_sc h2).tokens ht
  have hn := tokensL_len _ _ ht
  have hl : ts.length = (stsW l).length := by rw [← hk, List.length_map]
  have ha : At ts 0 (stsW l) := by
    intro i v hv
    rw [← hk, List.getElem?_map] at hv
    rw [Nat.zero_add]
    unfold kindT textT
    cases hi : ts[i]? with
    | none =>
      rw [hi] at hv
      cases hv
    | some t =>
      rw [hi] at hv
      cases hv
      exact ⟨rfl, rfl⟩
  have hw := stsW_len h2
  obtain ⟨m, e1, e2⟩ := stmts_at (L := (stsT l []).length) (F := 8192) l [] 0 8192 h2 ha (by omega) (by omega) (by omega)
  refine ⟨m, ?_, e2⟩
  unfold parseR
  rw [ht]
  show parseT ts (stsT l []).length = _
  unfold parseT
  rw [e1]
  show (match deepL ([] ++ m) 1 with | some x => _ | none => _) = _
  rw [List.nil_append, same_deepL l m 1 e2 h1]
theorem same_check {l m : List Nd} (h : sameL l m = true) (hc : checkR l = 0) : checkR m = 0 := by
  obtain ⟨h1, h2⟩ := check_parts hc
  exact check_of (same_deepL l m 1 h h1) (by rw [← same_stsR l m h]; exact h2)
theorem printR_split (l : List Nd) : (∃ ts, checkR l = 0 ∧ tokensL (stsT l []) = .ok ts ∧ printR l = (stsT l [], 0)) ∨ ((printR l).1 = [] ∧ (printR l).2 ≠ 0) := by
  unfold printR
  by_cases hc : checkR l = 0
  · rw [if_pos hc]
    cases ht : tokensL (stsT l []) with
    | ok ts => exact .inl ⟨ts, hc, rfl, rfl⟩
    | error f => exact .inr ⟨rfl, (by decide : (3 : Int) ≠ 0)⟩
  · rw [if_neg hc]
    exact .inr ⟨rfl, hc⟩
/-- TreeBack: what is printed is parsed to the same tree, and printed to the same text. -/
theorem back_law (l : List Nd) : ((printR l).2 ≠ 0 ∧ (printR l).1 = []) ∨ ((printR l).2 = 0 ∧ ∃ m, parseR (printR l).1 = .ok m ∧ sameL l m = true ∧ printR m = ((printR l).1, 0)) := by
  rcases printR_split l with ⟨ts, hc, ht, hp⟩ | ⟨h1, h2⟩
  · obtain ⟨m, e1, e2⟩ := back_parse hc ht
    refine .inr ⟨by rw [hp], m, by rw [hp]; exact e1, e2, ?_⟩
    have hs := same_stsT l m [] e2
    rw [hp]
    unfold printR
    rw [if_pos (same_check e2 hc), ← hs, ht]
  · exact .inl ⟨h2, h1⟩
end Go.Proofs.YtpbkeamjdolpgaaGreatDoor
namespace Go.Proofs.YtpbkeamjdolpgaaGreatDoor
open Go.RowKit Go.Lib Go.Shelf Go.Sort

mutual
theorem same_wtN : ∀ (x y : Nd), sameN x y = true → wtN x = wtN y
  | .mk k n l p, .mk k' n' l' p', h => by
    obtain ⟨rfl, rfl, hl⟩ := same_split h
    rw [wtN, wtN, same_wtL l l' hl]
theorem same_wtL : ∀ (l m : List Nd), sameL l m = true → wtL l = wtL m
  | [], [], _ => rfl
  | [], _ :: _, h => by cases h
  | _ :: _, [], h => by cases h
  | x :: r, y :: r', h => by
    rw [wtL, wtL, same_wtN x y (same_cons h).1, same_wtL r r' (same_cons h).2]
end
set_option maxHeartbeats 4000000 in
set_option maxRecDepth 100000 in
theorem treeBack_any (l : List Nd) (hok : OkL l) (hll : l.length < 2 ^ 62) (ok : Nat → Prop) (y : Option Addr) (c : Nat) (w : World) (hG : GlT w) (hrow : NdRow w ok l y) :
    Calls Tryz.prog 6 #[.slice y l.length c] w fun e w' => e = .returned (.bool true) ∧ Below w.heap.size w w' := by
  have c0 := works_any w hG
  have HROW := Lib.hid hrow
  have HG := Lib.hid hG
  have HOK := Lib.hid hok
  have HLL := Lib.hid hll
  obtain ⟨n, hn⟩ : ∃ n, l.length = n := ⟨_, rfl⟩
  have HN := Lib.hid hn
  rw [hn]
  clear hrow hG hok hll hn
  go_enter Tryz.func6, Tryz.ntmps6
  go_wp2_with fail
  refine c0.mono ?_
  clear c0
  rintro e w1 ⟨rfl, hb1⟩
  have c1 := beyond_any ok l HOK.out HLL.out y c w1 (HROW.out.below hb1)
  rw [HN.out] at c1
  have HB1 := Lib.hid hb1
  clear hb1
  go_wp2_with fail
  refine c1.mono ?_
  clear c1
  rintro e w2 ⟨⟨r, rfl, hr⟩, hb2⟩
  have HB2 := Lib.hid (tr HB1.out hb2)
  clear hb2
  cases r
  · have hw : wtL l ≤ 48000 := hr rfl
    have c2 := print_any ok l (by omega) (fun h => by have := text_len l h; omega) y c w2 (HG.out.1.below HB2.out) (HROW.out.below HB2.out)
    have HL := Lib.hid (back_law l)
    have HW := Lib.hid hw
    rw [HN.out] at c2
    obtain ⟨⟨s, ec⟩, hp⟩ : ∃ p, printR l = p := ⟨_, rfl⟩
    rw [hp] at c2 HL
    have HP := Lib.hid hp
    clear hr hw hp
    go_wp2_with fail
    refine c2.mono ?_
    clear c2
    rintro e w3 ⟨hb3, rfl⟩
    have HB3 := Lib.hid (tr HB2.out hb3)
    clear hb3
    rcases HL.out with ⟨he, hs⟩ | ⟨he, m, hm, hsm, hpm⟩
    · have he' : ec ≠ 0 := he
      have hs' : s = [] := hs
      subst hs'
      have Q : (ec == 0) = false := beq_eq_false_iff_ne.2 he'
      have Q2 : (ec != 0) = true := by simpa using he'
      clear he hs he' HL
      go_wp2_with fail
      go_ret
      exact ⟨rfl, HB3.out⟩
    · have he' : ec = 0 := he
      subst he'
      have hm' : parseR s = .ok m := hm
      have hpm' : printR m = (s, 0) := hpm
      have c3 := parse_any ⟨s.toArray⟩ w3 (HG.out.1.below HB3.out)
      rw [show (⟨s.toArray⟩ : ByteArray).data.toList = s by simp, hm'] at c3
      have HPM := Lib.hid hpm'
      have HSM := Lib.hid hsm
      clear hm hm' hpm hpm' hsm he HL
      go_wp2_with fail
      refine c3.mono ?_
      clear c3
      rintro e w4 ⟨hb4, y2, c2, rfl, hrow2, -⟩
      have HB4 := Lib.hid (tr HB3.out hb4)
      have HR2 := Lib.hid hrow2
      have c4 := print_any _ m (by have := same_wtL _ _ HSM.out; have := HW.out; omega) (fun h => by have := text_len m h; have := same_wtL _ _ HSM.out; have := HW.out; omega) y2 c2 w4 (HG.out.1.below HB4.out) hrow2
      rw [HPM.out] at c4
      clear hb4 hrow2
      go_wp2_with fail
      refine c4.mono ?_
      clear c4
      rintro e w5 ⟨hb5, rfl⟩
      have HB5 := Lib.hid (tr HB4.out hb5)
      have c5 := same_any (fun _ => True) (szL l + 1) l m (Nat.lt_succ_self _) (by have := sz_wtL l; have := HW.out; omega) y y2 c c2 w5 ((HROW.out.below HB5.out).wide fun _ _ _ => trivial) ((HR2.out.below hb5).wide fun _ _ _ => trivial)
      rw [HSM.out, HN.out] at c5
      clear hb5
      go_wp2_with fail
      refine c5.mono ?_
      clear c5
      rintro e w6 ⟨rfl, hb6⟩
      go_wp2_with fail
      go_ret
      exact ⟨by simp, tr HB5.out hb6⟩
  · have c2 := works_any w2 (HG.out.below HB2.out)
    clear hr
    go_wp2_with fail
    refine c2.mono ?_
    clear c2
    rintro e w3 ⟨rfl, hb3⟩
    go_wp2_with fail
    go_ret
    exact ⟨rfl, tr HB2.out hb3⟩
end Go.Proofs.YtpbkeamjdolpgaaGreatDoor
namespace Go.Proofs.YtpbkeamjdolpgaaGreatDoor

/-- Each token is a word by itself. -/
def TkOk (ts : List Tk) : Prop := ∀ t ∈ ts, (t.1 = 0 → resv t.2.1 = false → plainR t.2.1 = true) ∧ (t.1 = 1 → numR t.2.1 = true) ∧ t.2.1.length ≤ 65536
theorem name_of_word {s : List UInt8} (h : wordL s = (0, s.length)) (h0 : 0 < s.length) : nameL s = s.length := by
  unfold wordL at h
  by_cases h1 : 0 < nameL s
  · rw [if_pos h1] at h
    exact (Prod.mk.injEq _ _ _ _ ▸ h).2
  · rw [if_neg h1] at h
    by_cases h2 : 0 < numL s
    · rw [if_pos h2] at h; cases h
    · rw [if_neg h2] at h
      by_cases h3 : 0 < signL s
      · rw [if_pos h3] at h; cases h
      · rw [if_neg h3] at h
        have := (Prod.mk.injEq _ _ _ _ ▸ h : _ ∧ _).2
        omega
theorem num_of_word {s : List UInt8} (h : wordL s = (1, s.length)) (h0 : 0 < s.length) (hs : skipL s = 0) (hl : s.length ≤ 65536) : numR s = true := by
  have h1 : Sc (s ++ []) ((1, s) :: []) := Sc.word h (List.length_pos_iff.1 h0) hs (fun c hc => by cases hc) Sc.nil
  rw [List.append_nil] at h1
  obtain ⟨us, h2, h3⟩ := h1.all hl (by simp)
  unfold numR
  rw [h2]
  have hl : us.length = 1 := by simpa using congrArg List.length h3
  obtain ⟨t, rfl⟩ := List.length_eq_one_iff.1 hl
  · have h4 : (t.1, t.2.1) = (1, s) := by simpa [kt] using h3
    have e1 : t.1 = 1 := congrArg Prod.fst h4
    have e2 : t.2.1 = s := congrArg Prod.snd h4
    show (decide (t.1 = 1) && decide (t.2.1 = s)) = true
    rw [e1, e2]
    simp
theorem tkOk_of {s : List UInt8} {ts : List Tk} (h : tokensL s = .ok ts) : TkOk ts := by
  intro t ht
  have hlen : t.2.1.length ≤ 65536 := by
    have h1 : s.length ≤ 65536 := by
      unfold tokensL at h
      split at h
      · cases h
      · omega
    obtain ⟨i, hi, rfl⟩ := List.mem_iff_getElem.1 ht
    have := tokensL_at s ts h i _ (List.getElem?_eq_getElem hi)
    omega
  have hw : wordL t.2.1 = (t.1, t.2.1.length) ∧ 0 < t.2.1.length ∧ skipL t.2.1 = 0 := by
    unfold tokensL at h
    split at h
    · cases h
    · exact toksL_ok _ _ _ _ _ (skip_idem false s) h t ht
  refine ⟨fun h0 hr => ?_, fun h1 => num_of_word (by rw [← h1]; exact hw.1) hw.2.1 hw.2.2 hlen, hlen⟩
  have hn := name_of_word (by rw [← h0]; exact hw.1) hw.2.1
  unfold plainR
  rw [hn, hr]
  simp
  exact hw.2.1

theorem ex_num {s : List UInt8} {p : Int} (h : numR s = true) : exR (.mk 9 s [] p) = true := by rw [exR_eq, if_pos rfl, h]; rfl
theorem ex_name {s : List UInt8} {p : Int} (h : plainR s = true) : exR (.mk 10 s [] p) = true := by rw [exR_eq, if_neg (by decide), if_pos rfl, h]; rfl
theorem ex_list {l : List Nd} {p : Int} (h : ∀ x ∈ l, exR x = true) : exR (.mk 11 [] l p) = true := by
  rw [exR_eq, if_neg (by decide), if_neg (by decide), if_pos rfl, exsR_of h]
  rfl
theorem ex_one {s : List UInt8} {x : Nd} {p : Int} (h : s = [45] ∨ s = [33]) (hx : exR x = true) : exR (.mk 12 s [x] p) = true := by
  rw [exR_eq, if_neg (by decide), if_neg (by decide), if_neg (by decide), if_pos rfl, if_pos (show [x].length = 1 from rfl), exsR_of (l := [x]) (by simpa using hx)]
  rcases h with rfl | rfl <;> rfl
theorem ex_two {s : List UInt8} {x y : Nd} {p : Int} (h : 0 < levelS s) (hx : exR x = true) (hy : exR y = true) : exR (.mk 12 s [x, y] p) = true := by
  rw [exR_eq, if_neg (by decide), if_neg (by decide), if_neg (by decide), if_pos rfl, if_neg (by simp), exsR_of (l := [x, y]) (by simp [hx, hy])]
  simp [h]
theorem part_args {l : List Nd} {p : Int} (h : ∀ x ∈ l, exR x = true) : partR (.mk 8 [] l p) = true := by
  rw [partR, exsR_of h]
  rfl
theorem part_block {l : List Nd} {p : Int} (h : ∀ x ∈ l, stR x = true) : partR (.mk 0 [] l p) = true := by
  rw [partR, stsR_of h]
  rfl
theorem parsR_of : ∀ {l : List Nd}, (∀ x ∈ l, x.kind = 10 ∧ exR x = true) → parsR l = true
  | [], _ => rfl
  | x :: r, h => by
    rw [parsR, (h x (by simp)).1, (h x (by simp)).2, parsR_of fun y hy => h y (by simp [hy])]
    rfl
theorem part_params {l : List Nd} {p : Int} (h : ∀ x ∈ l, x.kind = 10 ∧ exR x = true) : partR (.mk 4 [] l p) = true := by
  rw [partR, parsR_of h]
  rfl
theorem sh_nil : shR [] [] = true := by rw [shR]
theorem sh_ex {x : Nd} {ws : List Int} {r : List Nd} (h : exR x = true) (hr : shR ws r = true) : shR (-1 :: ws) (x :: r) = true := by
  rw [shR, h, hr]
  rfl
theorem sh_part {w k : Int} {n : List UInt8} {l : List Nd} {p : Int} {ws : List Int} {r : List Nd} (hk : k = w) (h0 : ¬ w < 0) (h : partR (.mk k n l p) = true) (hr : shR ws r = true) : shR (w :: ws) (.mk k n l p :: r) = true := by
  rw [shR, h, hr, if_neg h0]
  show (decide (k = w) && true && true) = true
  rw [hk]
  simp
theorem ex_apply {s : List UInt8} {l : List Nd} {p q : Int} (h : plainR s = true) (hl : ∀ x ∈ l, exR x = true) : exR (.mk 13 s [.mk 8 [] l q] p) = true := by
  rw [exR_eq, if_neg (by decide), if_neg (by decide), if_neg (by decide), if_neg (by decide), if_pos rfl, h, sh_part rfl (by decide) (part_args hl) sh_nil]
  rfl
theorem ex_index {x y : Nd} {p : Int} (hx : exR x = true) (hy : exR y = true) : exR (.mk 14 [] [x, y] p) = true := by
  rw [exR_eq, if_neg (by decide), if_neg (by decide), if_neg (by decide), if_neg (by decide), if_neg (by decide), if_pos rfl, exsR_of (l := [x, y]) (by simp [hx, hy])]
  rfl
theorem ex_pick {x y z : Nd} {p : Int} (hx : exR x = true) (hy : exR y = true) (hz : exR z = true) : exR (.mk 15 [] [x, y, z] p) = true := by
  rw [exR_eq, if_neg (by decide), if_neg (by decide), if_neg (by decide), if_neg (by decide), if_neg (by decide), if_neg (by decide), if_pos rfl, exsR_of (l := [x, y, z]) (by simp [hx, hy, hz])]
  rfl

/-- What stands at a place before it and behind it weighs no more than the tokens. -/
def Wt (p : Nat) (w q : Nat) : Prop := 65537 * p + w ≤ 65537 * q
def Rt (P : Nd → Prop) (p : Nat) (R : Res Nd) : Prop := ∀ x q, R = .ok x q → 65537 * p + wtN x ≤ 65537 * q ∧ P x
def Ex (x : Nd) : Prop := exR x = true
theorem wtL_snoc (l : List Nd) (x : Nd) : wtL (l ++ [x]) = wtL l + wtN x := by
  rw [wtL_app]
  show _ + (wtN x + 0) = _
  omega
theorem wtL_one (x : Nd) : wtL [x] = wtN x := rfl
theorem wtL_two (x y : Nd) : wtL [x, y] = wtN x + wtN y := rfl
theorem wtL_three (x y z : Nd) : wtL [x, y, z] = wtN x + (wtN y + wtN z) := rfl
section
variable {ts : List Tk} {L : Nat}
theorem text_le (hT : TkOk ts) (p : Nat) : (textT ts p).length ≤ 65536 := by
  unfold textT
  cases hp : ts[p]? with
  | none => exact Nat.zero_le _
  | some t => exact (hT t (List.mem_of_getElem? hp)).2.2
theorem rt_name (hT : TkOk ts) {p q : Nat} {s : List UInt8} (h : nameP ts p = .ok s q) : q = p + 1 ∧ s.length ≤ 65536 ∧ plainR s = true := by
  unfold nameP at h
  split at h
  · rename_i hn
    cases h
    refine ⟨rfl, text_le hT p, ?_⟩
    unfold namedT at hn
    simp only [Bool.and_eq_true, decide_eq_true_eq, Bool.not_eq_true'] at hn
    obtain ⟨h1, h2⟩ := hn
    unfold kindT at h1
    unfold textT at h2 ⊢
    cases hp : ts[p]? with
    | none => rw [hp] at h1; simp at h1
    | some t =>
      rw [hp] at h1 h2
      exact (hT t (List.mem_of_getElem? hp)).1 (by simpa using h1) h2
  · cases h
variable (hT : TkOk ts)
include hT
theorem rt_nameN (p : Nat) : Rt (fun x => x.kind = 10 ∧ exR x = true) p (nameN ts L p) := by
  intro x q h
  obtain ⟨s, r, h1, h2⟩ := bind_ok h
  obtain ⟨rfl, h3, h4⟩ := rt_name hT h1
  cases h2
  rw [wtN_mk]
  refine ⟨?_, rfl, ex_name h4⟩
  show 65537 * p + (0 + s.length + 1) ≤ 65537 * (p + 1)
  omega
omit hT in
theorem rt_rowM {P : Nd → Prop} {one : Nat → Res Nd} (h1 : ∀ p, Rt P p (one p)) {e : List UInt8} : ∀ (f : Nat) (acc : List Nd) (q : Nat) (l : List Nd) (r : Nat), rowM ts L one f e acc q = .ok l r → (∀ x ∈ acc, P x) → 65537 * q + wtL l + 1 ≤ 65537 * r + wtL acc ∧ ∀ x ∈ l, P x
  | 0, _, _, _, _, h, _ => by cases h
  | f + 1, acc, q, l, r, h, ha => by
    unfold rowM at h
    split at h
    · cases h; exact ⟨by omega, ha⟩
    · obtain ⟨_, r1, a1, h⟩ := bind_ok h
      obtain ⟨x, r2, a2, h⟩ := bind_ok h
      have := take_ok a1
      have h2 := h1 _ x r2 a2
      have h3 := rt_rowM h1 f (acc ++ [x]) r2 l r h (fun y hy => by
        rcases List.mem_append.1 hy with hy | hy
        · exact ha y hy
        · rw [List.mem_singleton.1 hy]; exact h2.2)
      rw [wtL_snoc] at h3
      exact ⟨by omega, h3.2⟩
omit hT in
theorem rt_rowG {P : Nd → Prop} {one : Nat → Res Nd} (h1 : ∀ p, Rt P p (one p)) {e : List UInt8} {f p : Nat} {l : List Nd} {r : Nat} (h : rowG ts L one f e p = .ok l r) : 65537 * p + wtL l + 1 ≤ 65537 * r ∧ ∀ x ∈ l, P x := by
  unfold rowG at h
  split at h
  · cases h
    refine ⟨?_, by simp⟩
    show 65537 * p + 0 + 1 ≤ 65537 * (p + 1)
    omega
  · obtain ⟨x, r2, a2, h⟩ := bind_ok h
    have h2 := h1 _ x r2 a2
    have h3 := rt_rowM h1 f [x] r2 l r h (by simpa using h2.2)
    rw [wtL_one] at h3
    exact ⟨by omega, h3.2⟩
theorem rt_params (f p : Nat) : Rt (fun x => ∃ l q, x = .mk 4 [] l q ∧ partR (.mk 4 [] l q) = true) p (paramsP ts L f p) := by
  intro x q h
  obtain ⟨_, r1, a1, h⟩ := bind_ok h
  obtain ⟨l, r2, a2, h⟩ := bind_ok h
  have := take_ok a1
  have h2 := rt_rowG (rt_nameN hT) a2
  cases h
  rw [wtN_mk]
  refine ⟨?_, l, _, rfl, part_params h2.2⟩
  have := h2.1
  simp only [List.length_nil]
  omega
variable {ex : Nat → Res Nd} (hx : ∀ p, Rt Ex p (ex p))
include hx
omit hT in
theorem rt_args (f p : Nat) : Rt (fun x => ∃ l q, x = .mk 8 [] l q ∧ ∀ y ∈ l, exR y = true) p (argsO ts L ex f p) := by
  intro x q h
  obtain ⟨_, r1, a1, h⟩ := bind_ok h
  obtain ⟨l, r2, a2, h⟩ := bind_ok h
  have := take_ok a1
  have h2 := rt_rowG hx a2
  cases h
  rw [wtN_mk]
  refine ⟨?_, l, _, rfl, h2.2⟩
  have := h2.1
  simp only [List.length_nil]
  omega
theorem rt_atom (f p : Nat) : Rt Ex p (atomO ts L ex f p) := by
  intro x q h
  unfold atomO at h
  split at h
  · obtain ⟨y, r1, a1, h⟩ := bind_ok h
    obtain ⟨_, r2, a2, h⟩ := bind_ok h
    have := take_ok a2
    have h2 := hx _ y r1 a1
    cases h
    exact ⟨by omega, h2.2⟩
  · split at h
    · obtain ⟨l, r1, a1, h⟩ := bind_ok h
      have h2 := rt_rowG hx a1
      cases h
      rw [wtN_mk]
      refine ⟨?_, ex_list h2.2⟩
      have := h2.1
      simp only [List.length_nil]
      omega
    · split at h
      · rename_i hk
        cases h
        rw [wtN_mk]
        have := text_le hT p
        refine ⟨?_, ex_num ?_⟩
        · show 65537 * p + (0 + (textT ts p).length + 1) ≤ 65537 * (p + 1)
          omega
        · unfold kindT at hk
          unfold textT
          cases hp : ts[p]? with
          | none => rw [hp] at hk; simp at hk
          | some t =>
            rw [hp] at hk
            exact (hT t (List.mem_of_getElem? hp)).2.1 (by simp at hk; omega)
      · obtain ⟨s, r1, a1, h⟩ := bind_ok h
        obtain ⟨rfl, h3, h4⟩ := rt_name hT a1
        split at h
        · obtain ⟨a, r2, a2, h⟩ := bind_ok h
          obtain ⟨h5, l, q1, rfl, h6⟩ := rt_args hx f _ a r2 a2
          cases h
          rw [wtN_mk, wtL_one]
          exact ⟨by omega, ex_apply h4 h6⟩
        · cases h
          rw [wtN_mk]
          refine ⟨?_, ex_name h4⟩
          show 65537 * p + (0 + s.length + 1) ≤ 65537 * (p + 1)
          omega
omit hT in
theorem rt_index : ∀ (f : Nat) (x : Nd) (q : Nat) (y : Nd) (r : Nat), indexL ts L ex f x q = .ok y r → exR x = true → 65537 * q + wtN y ≤ 65537 * r + wtN x ∧ exR y = true
  | 0, _, _, _, _, h, _ => by cases h
  | f + 1, x, q, y, r, h, h0 => by
    unfold indexL at h
    split at h
    · obtain ⟨z, r1, a1, h⟩ := bind_ok h
      obtain ⟨_, r2, a2, h⟩ := bind_ok h
      have := take_ok a2
      have h2 := hx _ z r1 a1
      have h3 := rt_index f _ r2 y r h (ex_index h0 h2.2)
      rw [wtN_mk, wtL_two] at h3
      simp only [List.length_nil] at h3
      exact ⟨by omega, h3.2⟩
    · cases h; exact ⟨by omega, h0⟩
theorem rt_unary (F : Nat) : ∀ (f p : Nat), Rt Ex p (unaryL ts L ex F f p)
  | 0, _ => fun _ _ h => by cases h
  | f + 1, p => by
    intro x q h
    unfold unaryL at h
    split at h
    · rename_i hs
      obtain ⟨y, r1, a1, h⟩ := bind_ok h
      have h2 := rt_unary F f _ y r1 a1
      cases h
      rw [wtN_mk, wtL_one]
      have := text_le hT p
      refine ⟨by omega, ex_one ?_ h2.2⟩
      unfold isT at hs
      simp only [Bool.or_eq_true, Bool.and_eq_true, decide_eq_true_eq] at hs
      rcases hs with hs | hs
      · exact .inl hs.1
      · exact .inr hs.1
    · obtain ⟨y, r1, a1, h⟩ := bind_ok h
      have h2 := rt_atom hT hx F p y r1 a1
      have h3 := rt_index hx F y r1 x q h h2.2
      exact ⟨by omega, h3.2⟩
omit hT hx in
theorem any_level {p k : Nat} (hk : k < 5) (h : anyT ts p (signsK k) = true) : 0 < levelS (textT ts p) := by
  obtain ⟨s, h1, h2⟩ := List.any_eq_true.1 h
  unfold isT at h2
  simp only [Bool.and_eq_true, decide_eq_true_eq] at h2
  rw [h2.1]
  clear h h2
  have e : ∀ k, k < 5 → ∀ s ∈ signsK k, 0 < levelS s := by decide
  exact e k hk s h1
omit hx in
theorem rt_levelM {tight : Nat → Res Nd} (ht : ∀ p, Rt Ex p (tight p)) (k : Nat) (hk : k < 5) : ∀ (f : Nat) (x : Nd) (q : Nat) (y : Nd) (r : Nat), levelM ts L tight k f x q = .ok y r → exR x = true → 65537 * q + wtN y ≤ 65537 * r + wtN x ∧ exR y = true
  | 0, _, _, _, _, h, _ => by cases h
  | f + 1, x, q, y, r, h, h0 => by
    unfold levelM at h
    split at h
    · rename_i hs
      obtain ⟨z, r1, a1, h⟩ := bind_ok h
      have h2 := ht _ z r1 a1
      have h3 := text_le hT q
      have h4 := ex_two (p := (placeT ts L q : Int)) (any_level hk hs) h0 h2.2
      split at h
      · cases h
        rw [wtN_mk, wtL_two]
        exact ⟨by omega, h4⟩
      · have h5 := rt_levelM ht k hk f _ r1 y r h h4
        rw [wtN_mk, wtL_two] at h5
        exact ⟨by omega, h5.2⟩
    · cases h; exact ⟨by omega, h0⟩
theorem rt_lev (f : Nat) : ∀ (d p : Nat), Rt Ex p (levO ts L ex f d p)
  | 0, p => rt_unary hT hx f f p
  | d + 1, p => by
    intro x q h
    obtain ⟨y, r1, a1, h⟩ := bind_ok h
    have h2 := rt_lev f d p y r1 a1
    have h3 := rt_levelM hT (rt_lev f d) _ (by omega) f y r1 x q h h2.2
    exact ⟨by omega, h3.2⟩
theorem rt_exprO (f p : Nat) : Rt Ex p (exprO ts L ex f p) := by
  intro x q h
  unfold exprO at h
  obtain ⟨y, r1, a1, h⟩ := bind_ok h
  have h1 := rt_lev hT hx f 5 p y r1 a1
  split at h
  · obtain ⟨z, r2, a2, h⟩ := bind_ok h
    obtain ⟨_, r3, a3, h⟩ := bind_ok h
    obtain ⟨u, r4, a4, h⟩ := bind_ok h
    have h2 := hx _ z r2 a2
    have := take_ok a3
    have h3 := hx _ u r4 a4
    cases h
    rw [wtN_mk, wtL_three]
    refine ⟨?_, ex_pick h1.2 h2.2 h3.2⟩
    simp only [List.length_nil]
    omega
  · cases h; exact h1
omit hx in
theorem rt_expr : ∀ (f p : Nat), Rt Ex p (exprP ts L f p)
  | 0, _ => fun _ _ h => by cases h
  | f + 1, p => rt_exprO hT (rt_expr f) f p
variable {st : Nat → Res Nd} (hs : ∀ p, Rt (fun x => stR x = true) p (st p))
include hs
omit hx hT in
theorem rt_blockL : ∀ (f : Nat) (acc : List Nd) (q : Nat) (l : List Nd) (r : Nat), blockL ts st f acc q = .ok l r → (∀ x ∈ acc, stR x = true) → 65537 * q + wtL l + 1 ≤ 65537 * r + wtL acc ∧ ∀ x ∈ l, stR x = true
  | 0, _, _, _, _, h, _ => by cases h
  | f + 1, acc, q, l, r, h, ha => by
    unfold blockL at h
    split at h
    · cases h; exact ⟨by omega, ha⟩
    · obtain ⟨x, r2, a2, h⟩ := bind_ok h
      have h2 := hs _ x r2 a2
      have h3 := rt_blockL f (acc ++ [x]) r2 l r h (fun y hy => by
        rcases List.mem_append.1 hy with hy | hy
        · exact ha y hy
        · rw [List.mem_singleton.1 hy]; exact h2.2)
      rw [wtL_snoc] at h3
      exact ⟨by omega, h3.2⟩
omit hx hT in
theorem rt_block (f p : Nat) : Rt (fun x => ∃ l q, x = .mk 0 [] l q ∧ partR (.mk 0 [] l q) = true) p (blockO ts L st f p) := by
  intro x q h
  obtain ⟨_, r1, a1, h⟩ := bind_ok h
  obtain ⟨l, r2, a2, h⟩ := bind_ok h
  have := take_ok a1
  have h2 := rt_blockL hs f [] r1 l r2 a2 (by simp)
  have e : wtL ([] : List Nd) = 0 := rfl
  cases h
  rw [wtN_mk]
  refine ⟨?_, l, _, rfl, part_block h2.2⟩
  simp only [List.length_nil]
  omega
omit hs hx hT in
theorem st_eq (k : Int) {s : List UInt8} {l : List Nd} {p : Int} (hk : k ≠ 6) (h : plainR s = true) (ws : List Int) (e : (if k = 1 then shR [-1] l else if k = 2 then shR [4, 0] l else if k = 3 then shR [4, -1] l else if k = 5 then shR [-1, 0] l else if k = 7 then shR (if l.length = 1 then [8] else [8, 0]) l else false) = shR ws l) (hl : shR ws l = true) : stR (.mk k s l p) = true := by
  rw [stR_eq, if_neg hk, h, e, hl]
  rfl
theorem rt_stmtO (f p : Nat) : Rt (fun x => stR x = true) p (stmtO ts L ex st f p) := by
  intro x q h
  unfold stmtO at h
  split at h
  · obtain ⟨s, r1, a1, h⟩ := bind_ok h
    obtain ⟨y, r2, a2, h⟩ := bind_ok h
    obtain ⟨z, r3, a3, h⟩ := bind_ok h
    obtain ⟨rfl, k1, k2⟩ := rt_name hT a1
    obtain ⟨h1, l, q1, rfl, h2⟩ := rt_params hT f _ y r2 a2
    obtain ⟨h3, b, q2, rfl, h4⟩ := rt_block hs f _ z r3 a3
    cases h
    rw [wtN_mk, wtL_two]
    exact ⟨by omega, st_eq 2 (by decide) k2 [4, 0] rfl (sh_part rfl (by decide) h2 (sh_part rfl (by decide) h4 sh_nil))⟩
  · split at h
    · obtain ⟨s, r1, a1, h⟩ := bind_ok h
      obtain ⟨y, r2, a2, h⟩ := bind_ok h
      obtain ⟨_, r3, a3, h⟩ := bind_ok h
      obtain ⟨z, r4, a4, h⟩ := bind_ok h
      obtain ⟨_, r5, a5, h⟩ := bind_ok h
      obtain ⟨rfl, k1, k2⟩ := rt_name hT a1
      obtain ⟨h1, l, q1, rfl, h2⟩ := rt_params hT f _ y r2 a2
      have := take_ok a3
      have h3 := hx _ z r4 a4
      have := take_ok a5
      cases h
      rw [wtN_mk, wtL_two]
      exact ⟨by omega, st_eq 3 (by decide) k2 [4, -1] rfl (sh_part rfl (by decide) h2 (sh_ex h3.2 sh_nil))⟩
    · split at h
      · obtain ⟨_, r1, a1, h⟩ := bind_ok h
        obtain ⟨s, r2, a2, h⟩ := bind_ok h
        obtain ⟨_, r3, a3, h⟩ := bind_ok h
        obtain ⟨y, r4, a4, h⟩ := bind_ok h
        obtain ⟨_, r5, a5, h⟩ := bind_ok h
        obtain ⟨z, r6, a6, h⟩ := bind_ok h
        have := take_ok a1
        obtain ⟨rfl, k1, k2⟩ := rt_name hT a2
        have := take_ok a3
        have h3 := hx _ y r4 a4
        have := take_ok a5
        obtain ⟨h5, b, q2, rfl, h4⟩ := rt_block hs f _ z r6 a6
        cases h
        rw [wtN_mk, wtL_two]
        exact ⟨by omega, st_eq 5 (by decide) k2 [-1, 0] rfl (sh_ex h3.2 (sh_part rfl (by decide) h4 sh_nil))⟩
      · split at h
        · obtain ⟨_, r1, a1, h⟩ := bind_ok h
          obtain ⟨y, r2, a2, h⟩ := bind_ok h
          obtain ⟨_, r3, a3, h⟩ := bind_ok h
          obtain ⟨z, r4, a4, h⟩ := bind_ok h
          have := take_ok a1
          have h3 := hx _ y r2 a2
          have := take_ok a3
          obtain ⟨h5, b, q2, rfl, h4⟩ := rt_block hs f _ z r4 a4
          split at h
          · obtain ⟨u, r5, a5, h⟩ := bind_ok h
            obtain ⟨h6, b', q3, rfl, h7⟩ := rt_block hs f _ u r5 a5
            cases h
            rw [wtN_mk, wtL_three]
            refine ⟨?_, ?_⟩
            · simp only [List.length_nil]
              omega
            · show stR _ = true
              rw [stR_eq, if_pos rfl, if_neg (by simp), sh_ex h3.2 (sh_part rfl (by decide) h4 (sh_part rfl (by decide) h7 sh_nil))]
              rfl
          · cases h
            rw [wtN_mk, wtL_two]
            refine ⟨?_, ?_⟩
            · simp only [List.length_nil]
              omega
            · show stR _ = true
              rw [stR_eq, if_pos rfl, if_pos (show [y, Nd.mk 0 [] b q2].length = 2 from rfl), sh_ex h3.2 (sh_part rfl (by decide) h4 sh_nil)]
              rfl
        · obtain ⟨s, r1, a1, h⟩ := bind_ok h
          obtain ⟨rfl, k1, k2⟩ := rt_name hT a1
          split at h
          · obtain ⟨y, r2, a2, h⟩ := bind_ok h
            obtain ⟨_, r3, a3, h⟩ := bind_ok h
            have h3 := hx _ y r2 a2
            have := take_ok a3
            cases h
            rw [wtN_mk, wtL_one]
            exact ⟨by omega, st_eq 1 (by decide) k2 [-1] rfl (sh_ex h3.2 sh_nil)⟩
          · obtain ⟨y, r2, a2, h⟩ := bind_ok h
            obtain ⟨h5, l, q1, rfl, h6⟩ := rt_args hx f _ y r2 a2
            have h7 := part_args (p := q1) h6
            split at h
            · obtain ⟨z, r3, a3, h⟩ := bind_ok h
              obtain ⟨h8, b, q2, rfl, h4⟩ := rt_block hs f _ z r3 a3
              cases h
              rw [wtN_mk, wtL_two]
              exact ⟨by omega, st_eq 7 (by decide) k2 [8, 0] rfl (sh_part rfl (by decide) h7 (sh_part rfl (by decide) h4 sh_nil))⟩
            · obtain ⟨_, r3, a3, h⟩ := bind_ok h
              have := take_ok a3
              cases h
              rw [wtN_mk, wtL_one]
              exact ⟨by omega, st_eq 7 (by decide) k2 [8] rfl (sh_part rfl (by decide) h7 sh_nil)⟩
omit hx hs in
theorem rt_stmt (F : Nat) : ∀ (f p : Nat), Rt (fun x => stR x = true) p (stmtP ts L F f p)
  | 0, _ => fun _ _ h => by cases h
  | f + 1, p => rt_stmtO hT (rt_expr hT F) (rt_stmt F f) F p
omit hx hs in
theorem rt_stmts (F : Nat) : ∀ (f : Nat) (acc : List Nd) (q : Nat) (l : List Nd) (r : Nat), stmtsP ts L F f acc q = .ok l r → (∀ x ∈ acc, stR x = true) → 65537 * q + wtL l ≤ 65537 * r + wtL acc ∧ ∀ x ∈ l, stR x = true
  | 0, _, _, _, _, h, _ => by cases h
  | f + 1, acc, q, l, r, h, ha => by
    unfold stmtsP at h
    split at h
    · cases h; exact ⟨by omega, ha⟩
    · obtain ⟨x, r2, a2, h⟩ := bind_ok h
      have h2 := rt_stmt hT F F q x r2 a2
      have h3 := rt_stmts F f (acc ++ [x]) r2 l r h (fun y hy => by
        rcases List.mem_append.1 hy with hy | hy
        · exact ha y hy
        · rw [List.mem_singleton.1 hy]; exact h2.2)
      rw [wtL_snoc] at h3
      exact ⟨by omega, h3.2⟩
end
/-- What a text is parsed to is right, and not heavy. -/
theorem parse_right {s : List UInt8} {l : List Nd} (h : parseR s = .ok l) : checkR l = 0 ∧ wtL l ≤ 268500000 := by
  unfold parseR at h
  cases ht : tokensL s with
  | error f => rw [ht] at h; cases h
  | ok ts =>
    rw [ht] at h
    have h : parseT ts s.length = .ok l := h
    unfold parseT at h
    have hn := tokensL_len _ _ ht
    have hT := tkOk_of ht
    cases hp : stmtsP ts s.length 8192 8192 [] 0 with
    | out => rw [hp] at h; cases h
    | bad q => rw [hp] at h; cases h
    | ok m q =>
      rw [hp] at h
      have hg := gd_stmts (ts := ts) (L := s.length) (F := 8192) (by omega) 8192 [] 0 (Nat.zero_le _) (by omega)
      rw [hp] at hg
      have hq : q ≤ ts.length := hg.2
      have h2 := rt_stmts hT 8192 8192 [] 0 m q hp (by simp)
      have e : wtL ([] : List Nd) = 0 := rfl
      dsimp only at h
      cases hd : deepL m 1 with
      | some x => rw [hd] at h; cases h
      | none =>
        rw [hd] at h
        cases h
        refine ⟨?_, by omega⟩
        unfold checkR
        rw [hd, stsR_of h2.2]
        rfl
end Go.Proofs.YtpbkeamjdolpgaaGreatDoor
namespace Go.Proofs.YtpbkeamjdolpgaaGreatDoor
open Go.RowKit Go.Lib Go.Shelf Go.Sort

/-- What TreeAgain asks of what is parsed. -/
theorem again_law {s : List UInt8} {l : List Nd} (h : parseR s = .ok l) : checkR l = 0 ∧ wtL l ≤ 268500000 ∧ (printR l = ([], 3) ∨ ∃ T m, printR l = (T, 0) ∧ parseR T = .ok m ∧ sameL l m = true ∧ printR m = (T, 0)) := by
  obtain ⟨h1, h2⟩ := parse_right h
  refine ⟨h1, h2, ?_⟩
  rcases back_law l with ⟨_, _⟩ | ⟨k1, m, k2, k3, k4⟩
  · unfold printR at *
    rw [if_pos h1] at *
    cases ht : tokensL (stsT l []) with
    | ok ts => rename_i k _; rw [ht] at k; exact absurd rfl k
    | error f => exact .inl rfl
  · refine .inr ⟨(printR l).1, m, ?_, k2, k3, k4⟩
    rw [← k1]
set_option maxHeartbeats 4000000 in
set_option maxRecDepth 100000 in
theorem treeAgain_any (s : ByteArray) (hs : s.size < 2 ^ 62) (w : World) (hG : GlT w) :
    Calls Tryz.prog 7 #[.string s] w fun e w' => e = .returned (.bool true) ∧ Below w.heap.size w w' := by
  have c0 := works_any w hG
  have HG := Lib.hid hG
  clear hG
  by_cases hlen : 16384 < s.size
  · have Q : ((16384 : Int) < (s.size : Int)) := by omega
    clear hlen
    go_enter Tryz.func7, Tryz.ntmps7
    go_wp2_with fail
    refine c0.mono ?_
    clear c0
    rintro e w1 ⟨rfl, hb1⟩
    have c1 := works_any w1 (HG.out.below hb1)
    go_wp2_with fail
    refine c1.mono ?_
    clear c1
    rintro e w2 ⟨rfl, hb2⟩
    go_wp2_with fail
    go_ret
    exact ⟨rfl, tr hb1 hb2⟩
  · have Q : ¬ ((16384 : Int) < (s.size : Int)) := by omega
    clear hlen
    go_enter Tryz.func7, Tryz.ntmps7
    go_wp2_with fail
    refine c0.mono ?_
    clear c0
    rintro e w1 ⟨rfl, hb1⟩
    have HB1 := Lib.hid hb1
    have c1 := parse_any s w1 (HG.out.1.below hb1)
    obtain ⟨P, hP⟩ : ∃ P, parseR s.data.toList = P := ⟨_, rfl⟩
    rw [hP] at c1
    have HP := Lib.hid hP
    clear hb1 hP
    go_wp2_with fail
    refine c1.mono ?_
    clear c1
    cases P with
    | error f =>
      rintro e w2 ⟨hb2, b, hb, rfl, hf⟩
      have HB2 := Lib.hid (tr HB1.out hb2)
      clear hb2 hb hf
      go_wp2_with fail
      go_ret
      exact ⟨rfl, HB2.out⟩
    | ok l =>
      rintro e w2 ⟨hb2, y, c, rfl, hrow, -⟩
      obtain ⟨k1, k2, k3⟩ := again_law HP.out
      have HB2 := Lib.hid (tr HB1.out hb2)
      have HROW := Lib.hid hrow
      have HW := Lib.hid k2
      have HC := Lib.hid k1
      have c2 := check_any _ l (by omega) y c w2 (HG.out.1.below HB2.out) hrow
      rw [k1] at c2
      have HK := Lib.hid k3
      obtain ⟨n, hn⟩ : ∃ n, l.length = n := ⟨_, rfl⟩
      have HN := Lib.hid hn
      rw [hn] at c2 ⊢
      clear hb2 k1 k2 k3 hn hrow
      go_wp2_with fail
      refine c2.mono ?_
      clear c2
      rintro e w3 ⟨rfl, hb3⟩
      have HB3 := Lib.hid (tr HB2.out hb3)
      have HROW3 := Lib.hid (HROW.out.below hb3)
      have c3 := print_any _ l (by have := HW.out; omega) (fun h => by have := text_len l h; have := HW.out; omega) y c w3 (HG.out.1.below HB3.out) HROW3.out
      rw [HN.out] at c3
      clear hb3
      rcases HK.out with hp | ⟨T, m, hp, hm, hsm, hpm⟩
      · rw [hp] at c3
        clear hp HK
        go_wp2_with fail
        refine c3.mono ?_
        clear c3
        rintro e w4 ⟨hb4, rfl⟩
        have HB4 := Lib.hid (tr HB3.out hb4)
        clear hb4
        go_wp2_with fail
        go_ret
        exact ⟨rfl, HB4.out⟩
      · rw [hp] at c3
        have HM := Lib.hid hm
        have HPM := Lib.hid hpm
        have HSM := Lib.hid hsm
        clear hp hm hpm hsm HK
        go_wp2_with fail
        refine c3.mono ?_
        clear c3
        rintro e w4 ⟨hb4, rfl⟩
        have HB4 := Lib.hid (tr HB3.out hb4)
        have HROW4 := Lib.hid (HROW3.out.below hb4)
        have c4 := parse_any ⟨T.toArray⟩ w4 (HG.out.1.below HB4.out)
        rw [show (⟨T.toArray⟩ : ByteArray).data.toList = T by simp, HM.out] at c4
        clear hb4
        go_wp2_with fail
        refine c4.mono ?_
        clear c4
        rintro e w5 ⟨hb5, y2, c2, rfl, hrow2, -⟩
        have HB5 := Lib.hid (tr HB4.out hb5)
        have HROW5 := Lib.hid (HROW4.out.below hb5)
        have HR2 := Lib.hid hrow2
        have hwm : wtL m < 2 ^ 40 := by have := same_wtL _ _ HSM.out; have := HW.out; omega
        have c5 := print_any _ m hwm (fun h => by have := text_len m h; have := same_wtL _ _ HSM.out; have := HW.out; omega) y2 c2 w5 (HG.out.1.below HB5.out) hrow2
        rw [HPM.out] at c5
        clear hb5 hrow2 hwm
        go_wp2_with fail
        refine c5.mono ?_
        clear c5
        rintro e w6 ⟨hb6, rfl⟩
        have HB6 := Lib.hid (tr HB5.out hb6)
        have c6 := same_any (fun _ => True) (szL l + 1) l m (Nat.lt_succ_self _) (by have := sz_wtL l; have := HW.out; omega) y y2 c c2 w6 ((HROW5.out.below hb6).wide fun _ _ _ => trivial) ((HR2.out.below hb6).wide fun _ _ _ => trivial)
        rw [HSM.out, HN.out] at c6
        clear hb6
        go_wp2_with fail
        refine c6.mono ?_
        clear c6
        rintro e w7 ⟨rfl, hb7⟩
        go_wp2_with fail
        go_ret
        exact ⟨by simp, tr HB6.out hb7⟩
end Go.Proofs.YtpbkeamjdolpgaaGreatDoor
namespace Go.Proofs.YtpbkeamjdolpgaaGreatDoor
open Go.ChangeShapes Go.WideShapes Go.RowKit Go.Lib Go.ChangeAt Go.Deep

theorem Tryz.structNode : ∃ f0 f1 f2 f3 : Field, Tryz.prog.underlying 53 = some (.struct #[f0, f1, f2, f3]) ∧ f0.type = 3 ∧ f1.type = 9 ∧ f2.type = 22 ∧ f3.type = 3 ∧ f0.offset = 0 ∧ f1.offset = 1 ∧ f2.offset = 2 ∧ f3.offset = 3 :=
  ⟨_, _, _, _, Tryz.underlying53, rfl, rfl, rfl, rfl, rfl, rfl, rfl, rfl⟩
theorem Tryz.cNode : Tryz.prog.cellsOf 53 = 4 := by kernel_rfl
theorem Tryz.cNodes : Tryz.prog.cellsOf 22 = 1 := by kernel_rfl
theorem Tryz.cIntN : Tryz.prog.cellsOf 3 = 1 := by kernel_rfl
theorem Tryz.cStringN : Tryz.prog.cellsOf 9 = 1 := by kernel_rfl
theorem Tryz.bNode : Tryz.prog.bytesOf 53 = 56 := by kernel_rfl

theorem ndRow_of {w : World} {ok : Nat → Prop} {b : Nat} : ∀ (l : List Nd) (o : Nat), (∀ i x, l[i]? = some x → NdAt w ok x b (o + i * 4)) → NdRow w ok l (some ⟨b, o, none⟩)
  | [], _, _ => trivial
  | x :: r, o, h => ⟨b, o, rfl, by simpa using h 0 x rfl, ndRow_of r (o + 4) fun i u hu => by
      have := h (i + 1) u (by simpa using hu)
      rwa [show o + (i + 1) * 4 = o + 4 + i * 4 by omega] at this⟩
theorem okL_of : ∀ (l : List Nd), (∀ x ∈ l, OkN x) → OkL l
  | [], _ => trivial
  | x :: r, h => ⟨h x (by simp), okL_of r fun u hu => h u (by simp [hu])⟩
theorem weightsAll_mem {H : Type} {P : Program} {e : TypeId} {d : DataW H} : ∀ {l : List (DataW H)}, d ∈ l → ∀ n ∈ d.weights P e, n ∈ DataW.weightsAll P e l
  | [], h, _, _ => by simp at h
  | u :: r, h, n, hn => by
    simp only [DataW.weightsAll, List.mem_append]
    rcases List.mem_cons.1 h with rfl | h
    · exact .inl hn
    · exact .inr (weightsAll_mem h n hn)

instance : Inhabited Nd := ⟨.mk 0 [] [] 0⟩
end Go.Proofs.YtpbkeamjdolpgaaGreatDoor
