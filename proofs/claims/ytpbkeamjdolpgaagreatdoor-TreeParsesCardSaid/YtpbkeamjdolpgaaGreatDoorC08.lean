/- The walks of the statements' twin and same, of the reference's deep. -/
import Derived.Test.YtpbkeamjdolpgaaGreatDoorB18
namespace Go.Proofs.YtpbkeamjdolpgaaGreatDoor
open Go.RowKit Go.Lib Go.Shelf Go.Sort

set_option maxHeartbeats 4000000 in
set_option maxRecDepth 100000 in
theorem twin_any (ok : Nat → Prop) : ∀ (N : Nat) (l : List Nd), szL l < N → szL l < 2 ^ 40 → ∀ (y : Option Addr) (c : Nat) (w : World), NdRow w ok l y →
    Calls Tryz.prog 19 #[.slice y l.length c] w fun e w' => ∃ v, e = .returned v ∧ RowOwn w' w.heap.size v l ∧ Below w.heap.size w w'
  | 0, _, h, _, _, _, _, _ => by omega
  | N + 1, l, hN, hw, y, c, w, hrow => by
    have ih := twin_any ok N
    have hl := len_szL l
    have HROW := Lib.hid hrow
    have HIH := Lib.hid ih
    have HSZ := Lib.hid hN
    have HW := Lib.hid hw
    obtain ⟨n, hn⟩ : ∃ n, l.length = n := ⟨_, rfl⟩
    have HN := Lib.hid hn
    have hnn : n < 2 ^ 40 := by omega
    obtain ⟨i0, hi0, hz0, hz1, hz2⟩ := info_parts Tryz.infoNode
    rw [hn]
    clear hrow ih hN hw hl hn
    go_enter Tryz.func19, Tryz.ntmps19
    go_wp2_with fail
    go_loopw [3, 8] (fun v j wx => ∃ i : Nat, j = .int .i64 i ∧ i ≤ n ∧ Below w.heap.size w wx ∧ RowOwn wx w.heap.size v (l.take i)) (fun _ j _ => n - (RowKit.intOf j).toNat)
    case atStart => exact ⟨0, rfl, Nat.zero_le _, Below.refl _ _, RowOwn.nil _ _⟩
    case round =>
      obtain ⟨i, rfl, hi, hb, hown⟩ := hrel
      by_cases hlt : i < n
      · obtain ⟨x, hx⟩ : ∃ u, l[i]? = some u := ⟨l[i]'(by have := HN.out; omega), List.getElem?_eq_getElem _⟩
        obtain ⟨B, o, rfl, hat⟩ := (HROW.out.below hb).at_ hx
        obtain ⟨k, nm, z, kids, cc, p, rfl, x0, x1, x2, x3, hk⟩ := hat.val
        have hks := kids_lt hx
        have HT : Hid (l.take (i + 1) = l.take i ++ [.mk k nm kids p]) := by
          show _ = _
          rw [List.take_add_one, hx]
          rfl
        have hA : Below wr.heap.size wr (wr.alloc (.cells #[.int .i64 k, .string ⟨nm.toArray⟩, .slice z kids.length cc, .int .i64 p] 53)) := (Below.refl _ _).alloc (Nat.le_refl _) _
        have c1 := HIH.out kids (by have := HSZ.out; omega) (by have := HW.out; omega) z cc _ (hk.below hA)
        have hbox := (Box4.new wr (.int .i64 k) (.string ⟨nm.toArray⟩) (.slice z kids.length cc) (.int .i64 p))
        have HBX := Lib.hid hbox
        have HA := Lib.hid hA
        have HOWN := Lib.hid hown
        have hlen : (l.take i).length = i := by rw [List.length_take]; have := HN.out; omega
        have HLEN := Lib.hid hlen
        obtain ⟨va, vc, hva, _, _⟩ := hown.shape
        rw [hlen] at hva
        subst hva
        have hlt' : (i : Int) < (n : Int) := by omega
        have Qi : IntKind.i64.wrap ((i : Int) + 1) = (i : Int) + 1 := IntWalk.i64_in _ (by omega)
        have HBsz := hb.size
        clear hx hat hk hA hbox hown hlen hks
        go_wp2_with fail
        refine c1.mono ?_
        clear c1
        rintro e w2 ⟨v1, rfl, hrow1, hb2⟩
        obtain ⟨y1, c1, rfl, hc1, hnd⟩ := hrow1.shape
        have hbx := Box4.below HBX.out hb2
        obtain ⟨b0, b1, b2, b3, b4⟩ := hbx.facts
        have hb3 : Below wr.heap.size wr (w2.setCell ⟨wr.heap.size, 2, none⟩ (.slice y1 kids.length c1)) := (tr HA.out hb2).setCell (p := ⟨wr.heap.size, 2, none⟩) (Nat.le_refl _) _
        have HB3 := Lib.hid hb3
        have HB2 := Lib.hid hb2
        have HND := Lib.hid hnd
        have hsz2 : wr.heap.size < w2.heap.size := by have := hb2.size; simp at this; omega
        clear hb2 hb3 hrow1 hnd
        go_wp2_with (at_builtin; obtain ⟨xs, hown5, hfl5⟩ := HOWN.out.below HB3.out; rw [HLEN.out] at hown5; refine wpList_append_fresh _ rfl (.tmp 16) (.tmp 18) 22 rfl (w.heap.size) 53 i0 (.agg #[.int .i64 0, .string ⟨#[]⟩, .slice none 0 0, .int .i64 0]) 4 56 Tryz.underlying22 hi0 hz0 hz1 hz2 rfl (by decide) _ _ _ rfl (hown5.alloc _) ⟨w2.heap.size, 0, none⟩ 1 1 [.int .i64 k, .string ⟨nm.toArray⟩, .slice y1 kids.length c1, .int .i64 p] rfl rfl (by simpa using cell_four_new (w2.setCell ⟨wr.heap.size, 2, none⟩ (.slice y1 kids.length c1)) _ _ _ _ _) (fun x hx => by simp at hx; rcases hx with rfl | rfl | rfl | rfl <;> rfl) (by unfold maxLen; omega) (by omega) (by simp; omega) ?_; intro v' w6 hown' hgrow hfresh)
        have hlt5 := fun j hj => ((hown5.alloc (.cells #[.int .i64 k, .string ⟨nm.toArray⟩, .slice y1 kids.length c1, .int .i64 p] 53)).lt j hj).1
        have hb6 : Below w.heap.size w w6 := Below.grown ((tr hb HB3.out).alloc (by have := HB3.out.size; omega) _) hgrow (by have := HB3.out.size; simp at this ⊢; omega) hlt5
        go_roundw
        case rel =>
          refine ⟨i + 1, by go_num, by omega, hb6, ?_⟩
          rw [HT.out]
          refine RowOwn.snoc (a := [.int .i64 k, .string ⟨nm.toArray⟩, .slice y1 kids.length c1, .int .i64 p]) (NFlat.mono (fun b h1 _ => h1) (fun b _ h2 => Below.heap_alloc _ _ b h2) hfl5) ⟨y1, c1, rfl, ?_⟩ (by rw [HLEN.out]; exact hown') hgrow hfresh
          have h7 : NdRow (w2.setCell ⟨wr.heap.size, 2, none⟩ (.slice y1 kids.length c1)) (fun k => wr.heap.size + 1 ≤ k) kids y1 := NdRow.mono (fun b h1 _ => by simpa using h1) (fun b h1 _ => Below.heap_setCell w2 _ _ _ (show b ≠ wr.heap.size by have h1' : (wr.alloc _).heap.size ≤ b := h1; simp at h1'; omega)) _ _ HND.out
          refine NdRow.mono (fun b h1 h2 => ⟨by omega, fun e => ?_⟩) (fun b _ h2 => Below.heap_alloc _ _ b h2) _ _ h7
          obtain ⟨xs3, hown3, _⟩ := HOWN.out
          have := (hown3.lt b e.symm).2
          omega
        case measure => simp [RowKit.intOf]; omega
      · obtain rfl : i = n := by omega
        rw [List.take_of_length_le (by have := HN.out; omega)] at hown
        have hlt' : ¬ (i : Int) < (i : Int) := by omega
        have HOWN := Lib.hid hown
        clear hown
        go_wp2_with fail
        go_ret
        exact ⟨_, rfl, HOWN.out, hb⟩

set_option maxHeartbeats 4000000 in
set_option maxRecDepth 100000 in
/-- A tree is the same as itself, places and all, wherever it lies. -/
theorem same27_any (ok : Nat → Prop) : ∀ (N : Nat) (l : List Nd), szL l < N → szL l < 2 ^ 40 → ∀ (y y' : Option Addr) (c c' : Nat) (w : World), NdRow w ok l y → NdRow w ok l y' →
    Calls Tryz.prog 24 #[.slice y l.length c, .slice y' l.length c'] w (Yes true w)
  | 0, _, h, _, _, _, _, _, _, _, _ => by omega
  | N + 1, l, hN, hw, y, y', c, c', w, hrow, hrow' => by
    have ih := same27_any ok N
    have hl := len_szL l
    have HROW := Lib.hid hrow
    have HROW' := Lib.hid hrow'
    have HIH := Lib.hid ih
    have HSZ := Lib.hid hN
    have HW := Lib.hid hw
    obtain ⟨n, hn⟩ : ∃ n, l.length = n := ⟨_, rfl⟩
    have HN := Lib.hid hn
    have hnn : n < 2 ^ 40 := by omega
    rw [hn]
    clear hrow hrow' ih hN hw hl hn
    go_enter Tryz.func24, Tryz.ntmps24
    go_wp2_with fail
    go_loopw [13] (fun j wx => ∃ i : Nat, j = .int .i64 i ∧ i ≤ n ∧ Below w.heap.size w wx) (fun j _ => n - (RowKit.intOf j).toNat)
    case atStart => exact ⟨0, rfl, Nat.zero_le _, Below.refl _ _⟩
    case round =>
      obtain ⟨i, rfl, hi, hb⟩ := hrel
      by_cases hlt : i < n
      · obtain ⟨x, hx⟩ : ∃ u, l[i]? = some u := ⟨l[i]'(by have := HN.out; omega), List.getElem?_eq_getElem _⟩
        obtain ⟨B, o, rfl, hat⟩ := (HROW.out.below hb).at_ hx
        obtain ⟨B', o', rfl, hat'⟩ := (HROW'.out.below hb).at_ hx
        obtain ⟨k, nm, m, p⟩ := x
        obtain ⟨hok, x0, x1, x3, ya, ca, x2, hk⟩ := hat
        obtain ⟨hok', x0', x1', x3', ya', ca', x2', hk'⟩ := hat'
        have hks := kids_lt hx
        have cE := fun d os => Calls.regrown_of (HIH.out m (by have := HSZ.out; omega) (by have := HW.out; omega) ya ya' ca ca' _ (hk.below (below_regrown wr d os)) (hk'.below (below_regrown wr d os)))
        have hlt' : (i : Int) < (n : Int) := by omega
        have Qi1 : IntKind.i64.wrap ((i : Int) + 1) = (i : Int) + 1 := IntWalk.i64_in _ (by omega)
        have Qk : (k != k) = false := by simp
        have Qp : (p != p) = false := by simp
        have Qn : (nm != nm) = false := by simp
        have q0 := cell_regrown x0
        have q1 := cell_regrown x1
        have q2 := cell_regrown x2
        have q3 := cell_regrown x3
        have q0' := cell_regrown x0'
        have q1' := cell_regrown x1'
        have q2' := cell_regrown x2'
        have q3' := cell_regrown x3'
        clear hx hk hk' hok hok' hks
        go_wp2_with fail
        refine wp_region_quiet_below (by kernel_rfl) (by kernel_rfl) ?_
        repeat (go_big_quiet_step (exact cE _ _))
        refine wpQuiet_nil ?_
        intro _ hw'
        obtain ⟨⟨dq, osq⟩, hw''⟩ := hw'
        subst hw''
        have hb2 := below_regrown wr dq osq
        generalize grow (redrawn wr dq) osq = w2 at *
        clear q0 q1 q2 q3 q0' q1' q2' q3' cE
        go_wp2_with fail
        go_roundw
        case rel => exact ⟨i + 1, by go_num, by omega, tr hb hb2⟩
        case measure => simp [RowKit.intOf]; omega
      · have hlt' : ¬ (i : Int) < (n : Int) := by omega
        go_wp2_with fail
        go_ret
        exact ⟨rfl, hb⟩

theorem ret_node_b {R : Ending → World → Prop} {fn : Func} {p q : Tmp} (hr : fn.results = #[.cell p 53, .tmp q]) {a : Act} {w : World} {g : Nat} {v0 v1 v2 v3 v : Value} (hp : a.tmps.getD p undef = .pointer (some ⟨g, 0, none⟩)) (hq : a.tmps.getD q undef = v) (hd : a.defers = [])
    (c0 : w.cell? ⟨g, 0, none⟩ = some v0) (c1 : w.cell? ⟨g, 1, none⟩ = some v1) (c2 : w.cell? ⟨g, 2, none⟩ = some v2) (c3 : w.cell? ⟨g, 3, none⟩ = some v3) (h : R (.returned (.tuple #[.agg #[v0, v1, v2, v3], v])) w) : bodyPost Tryz.prog fn R .ret a w := by
  have hp' : a.tmps[p]?.getD undef = .pointer (some ⟨g, 0, none⟩) := by simpa using hp
  have hq' : a.tmps[q]?.getD undef = v := by simpa using hq
  exact bodyPost_ret (v := .tuple #[.agg #[v0, v1, v2, v3], v]) (by simp [results, hr, hp', hq', go_sem, c0, c1, c2, c3]) hd h
theorem set4_other {w : World} {b q : Nat} {u0 u1 u2 u3 : Value} (h : q ≠ b) : ((((w.setCell ⟨b, 0, none⟩ u0).setCell ⟨b, 1, none⟩ u1).setCell ⟨b, 2, none⟩ u2).setCell ⟨b, 3, none⟩ u3).heap[q]? = w.heap[q]? := by
  rw [Below.heap_setCell _ _ _ _ h, Below.heap_setCell _ _ _ _ h, Below.heap_setCell _ _ _ _ h, Below.heap_setCell _ _ _ _ h]
theorem set4_below {a w : World} {B b : Nat} {u0 u1 u2 u3 : Value} (h : Below B a w) (hb : B ≤ b) : Below B a ((((w.setCell ⟨b, 0, none⟩ u0).setCell ⟨b, 1, none⟩ u1).setCell ⟨b, 2, none⟩ u2).setCell ⟨b, 3, none⟩ u3) :=
  (((h.setCell (p := ⟨b, 0, none⟩) hb _).setCell (p := ⟨b, 1, none⟩) hb _).setCell (p := ⟨b, 2, none⟩) hb _).setCell (p := ⟨b, 3, none⟩) hb _
/-- What the reference's deep hands back. -/
def RDeepEnd (ok : Nat → Prop) (R : Option Nd) (w : World) (e : Ending) (w' : World) : Prop :=
  Below w.heap.size w w' ∧ ((R = none ∧ e = .returned (.tuple #[.agg #[.int .i64 0, .string ⟨#[]⟩, .slice none 0 0, .int .i64 0], .bool false])) ∨ ∃ x v, R = some x ∧ e = .returned (.tuple #[v, .bool true]) ∧ NdVal w' ok x v)
set_option maxHeartbeats 4000000 in
set_option maxRecDepth 100000 in
theorem rdeep_any (b0 : Nat) : ∀ (N : Nat) (l : List Nd), szL l < N → szL l < 2 ^ 40 → ∀ (d : Nat), d ≤ 65 → ∀ (y : Option Addr) (c : Nat) (w : World), b0 ≤ w.heap.size → NdRow w (fun k => k < b0) l y →
    Calls Tryz.prog 46 #[.slice y l.length c, .int .i64 d] w (RDeepEnd (fun k => k < b0) (deepL l d) w)
  | 0, _, h, _, _, _, _, _, _, _, _ => by omega
  | N + 1, l, hN, hw, d, hd, y, c, w, hb0, hrow => by
    have ih := rdeep_any b0 N
    have hl := len_szL l
    obtain ⟨R, hR⟩ : ∃ R, deepL l d = R := ⟨_, rfl⟩
    rw [hR]
    obtain ⟨n, hn⟩ : ∃ n, l.length = n := ⟨_, rfl⟩
    have HN := Lib.hid hn
    have HR := Lib.hid hR
    have HROW := Lib.hid hrow
    have HSZ := Lib.hid hN
    have HW := Lib.hid hw
    have HIH := Lib.hid ih
    have HB0 := Lib.hid hb0
    have hnn : n < 2 ^ 40 := by omega
    rw [hn]
    have Qd1 : IntKind.i64.wrap ((d : Int) + 1) = (d : Int) + 1 := IntWalk.i64_in _ (by omega)
    clear hN hw hrow hR hn ih hl hb0
    go_enter Tryz.func46, Tryz.ntmps46
    go_wp2_with fail
    have hA : Below w.heap.size w (w.alloc (.cells #[.int .i64 0, .string ⟨#[]⟩, .slice none 0 0, .int .i64 0] 53)) := (Below.refl _ _).alloc (Nat.le_refl _) _
    have HBX := Lib.hid (Box4.new w (.int .i64 0) (.string ⟨#[]⟩) (.slice none 0 0) (.int .i64 0))
    have HA := Lib.hid hA
    clear hA
    generalize hbx : w.heap.size = bx at *
    go_loopg [6] n (fun gf v wx => ∃ i : Nat, v = .int .i64 i ∧ i + gf = n ∧ Below bx w wx ∧ Box4 wx bx (.int .i64 0) (.string ⟨#[]⟩) (.slice none 0 0) (.int .i64 0) ∧ Hid (deepL (l.drop i) d = R))
    case atStart => exact ⟨0, rfl, by omega, HA.out, HBX.out, HR⟩
    case round =>
      obtain ⟨i, rfl, hi, hb, hbox, hS⟩ := hrel
      obtain ⟨e0, e1, e2, e3, ef⟩ := hbox.facts
      have hbs : bx < wr.heap.size := World.block_lt_of_cell? wr _ e0
      have hRW : ∀ W, Below bx w W → NdRow W (fun k => k < b0) l y := fun W h => HROW.out.below (hbx.symm ▸ h)
      by_cases hlt : i < n
      · obtain ⟨x, hx⟩ : ∃ x, l[i]? = some x := ⟨l[i]'(by have := HN.out; omega), List.getElem?_eq_getElem _⟩
        have hS2 := hS.out
        rw [deepL_drop hx] at hS2
        obtain ⟨B, o, rfl, hat⟩ := (hRW wr hb).at_ hx
        obtain ⟨k, nm, kids, p⟩ := x
        have HAT : Hid (∀ W, Below bx w W → ∃ c', W.cell? ⟨B, o + i * 4 + 2, none⟩ = some c' ∧ ∃ y' cc, c' = .slice y' kids.length cc ∧ NdRow W (fun k => k < b0) kids y') := fun W h => by
          obtain ⟨B', o', h1, h2⟩ := (hRW W h).at_ hx
          cases h1
          obtain ⟨_, _, _, _, y', cc, h3, h4⟩ := h2
          exact ⟨_, h3, y', cc, rfl, h4⟩
        obtain ⟨hok, x0, x1, x3, y', c', x2, hk⟩ := hat
        have hks := kids_lt hx
        have hlt' : (i : Int) < (n : Int) := by omega
        have Qi1 : IntKind.i64.wrap ((i : Int) + 1) = (i : Int) + 1 := IntWalk.i64_in _ (by omega)
        by_cases hd64 : 64 < d
        · have hd' : (64 : Int) < (d : Int) := by omega
          have HS : Hid (R = some (.mk k nm kids p)) := by
            show R = _
            rw [← hS2, if_pos hd64]
          have HX2 := Lib.hid x2
          have HKD := Lib.hid hk
          clear hS hS2 hx hks hRW hok hk
          go_wp2_with fail
          have hF := (hbox.set4 (u0 := .int .i64 k) (u1 := .string ⟨nm.toArray⟩) (u2 := .slice y' kids.length c') (u3 := .int .i64 p)).facts
          exact ret_node_b rfl rfl rfl rfl hF.1 hF.2.1 hF.2.2.1 hF.2.2.2.1 ⟨by rw [hbx]; exact set4_below hb (Nat.le_refl _), .inr ⟨_, _, HS.out, rfl, y', c', rfl, NdRow.mono (fun _ h _ => h) (fun q hq _ => set4_other (by have := HB0.out; omega)) _ _ HKD.out⟩⟩
        · have hd' : ¬ (64 : Int) < (d : Int) := by omega
          have c2 : Calls Tryz.prog 46 #[.slice y' kids.length c', .int .i64 ((d : Int) + 1)] wr (RDeepEnd (fun k => k < b0) (deepL kids (d + 1)) wr) := HIH.out kids (by have := HSZ.out; omega) (by have := HW.out; omega) (d + 1) (by omega) y' c' wr (by have := HB0.out; omega) hk
          have HS : Hid (R = match deepL kids (d + 1) with
            | some y => some y
            | none => deepL (l.drop (i + 1)) d) := by
            show R = _
            rw [← hS2, if_neg hd64]
            rfl
          have HBOX := Lib.hid hbox
          have HBW := Lib.hid hb
          clear hS hS2 hx hks hRW hok hk hbox HAT e0 e1 e2 e3 ef
          go_wp2_with fail
          refine c2.mono ?_
          clear c2
          rintro e w2 ⟨hb2, ⟨hr, rfl⟩ | ⟨x', v, hr, rfl, hv⟩⟩
          · have HS4 : Hid (deepL (l.drop (i + 1)) d = R) := by
              have := HS.out
              rw [hr] at this
              exact this.symm
            have HBX2 := Lib.hid ((HBOX.out.below hb2).alloc (.cells #[.int .i64 0, .string ⟨#[]⟩, .slice none 0 0, .int .i64 0] 53))
            have HB2 := Lib.hid ((HBW.out.trans (hb2.mono (by omega))).alloc (by have := hb2.size; omega) (.cells #[.int .i64 0, .string ⟨#[]⟩, .slice none 0 0, .int .i64 0] 53))
            clear hr hb2 HS
            go_wp2_with fail
            go_roundg (gk - 1)
            case measure => omega
            case rel => exact ⟨i + 1, rfl, by omega, HB2.out, HBX2.out, HS4⟩
          · obtain ⟨k', nm', m', p'⟩ := x'
            obtain ⟨y2, c2, rfl, hrow2⟩ := hv
            have HS4 : Hid (R = some (.mk k' nm' m' p')) := by
              have := HS.out
              rw [hr] at this
              exact this
            have HBX2 := Lib.hid ((HBOX.out.below hb2).alloc (.cells #[.int .i64 k', .string ⟨nm'.toArray⟩, .slice y2 m'.length c2, .int .i64 p'] 53))
            have HB2 := Lib.hid ((HBW.out.trans (hb2.mono (by omega))).alloc (by have := hb2.size; omega) (.cells #[.int .i64 k', .string ⟨nm'.toArray⟩, .slice y2 m'.length c2, .int .i64 p'] 53))
            have HR2 := Lib.hid (hrow2.below ((Below.refl _ _).alloc (Nat.le_refl _) (.cells #[.int .i64 k', .string ⟨nm'.toArray⟩, .slice y2 m'.length c2, .int .i64 p'] 53)))
            obtain ⟨d0, d1, d2, d3, df⟩ := HBX2.out.facts
            clear hr hb2 HS hrow2
            go_wp2_with fail
            have hF := (HBX2.out.set4 (u0 := .int .i64 k') (u1 := .string ⟨nm'.toArray⟩) (u2 := .slice y2 m'.length c2) (u3 := .int .i64 p')).facts
            exact ret_node_b rfl rfl rfl rfl hF.1 hF.2.1 hF.2.2.1 hF.2.2.2.1 ⟨by rw [hbx]; exact set4_below HB2.out (Nat.le_refl _), .inr ⟨_, _, HS4.out, rfl, y2, c2, rfl, NdRow.mono (fun _ h _ => h) (fun q hq _ => set4_other (by have := HB0.out; omega)) _ _ HR2.out⟩⟩
      · have hS2 := hS.out
        rw [List.drop_of_length_le (by have := HN.out; omega)] at hS2
        have HS : Hid (R = none) := hS2.symm
        have hlt' : ¬ (i : Int) < (n : Int) := by omega
        clear hS hS2 hRW
        go_wp2_with fail
        have hF := (hbox.set4 (u0 := .int .i64 0) (u1 := .string ⟨#[]⟩) (u2 := .slice none 0 0) (u3 := .int .i64 0)).facts
        exact ret_node_b rfl rfl rfl rfl hF.1 hF.2.1 hF.2.2.1 hF.2.2.2.1 ⟨by rw [hbx]; exact set4_below hb (Nat.le_refl _), .inl ⟨HS.out, rfl⟩⟩
end Go.Proofs.YtpbkeamjdolpgaaGreatDoor
