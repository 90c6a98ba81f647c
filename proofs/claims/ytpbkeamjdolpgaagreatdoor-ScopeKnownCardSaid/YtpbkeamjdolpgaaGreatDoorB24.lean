/- The walk of tree.Same. The walk of the reference's Same. The walk of TreeSame. Plain: trees that are the same but for places have one text, and are right alike. -/
import Derived.Test.YtpbkeamjdolpgaaGreatDoorB19
import Derived.Test.YtpbkeamjdolpgaaGreatDoorB08
import Derived.Test.YtpbkeamjdolpgaaGreatDoorB23
import Derived.Lib.QuietBelow
import Derived.BigQuiet
import Derived.Deep.QuietTactic
namespace Go.Proofs.YtpbkeamjdolpgaaGreatDoor
open Go.RowKit Go.Lib Go.Shelf Go.Sort

theorem sameN_two (k k' : Int) (n n' : List UInt8) (l l' : List Nd) (p p' : Int) : sameN (.mk k n l p) (.mk k' n' l' p') = (decide (k = k') && decide (n = n') && sameL l l') := by rw [sameN]
theorem sameL_drop {l l' : List Nd} {i : Nat} {x x' : Nd} (h : l[i]? = some x) (h' : l'[i]? = some x') : sameL (l.drop i) (l'.drop i) = (sameN x x' && sameL (l.drop (i + 1)) (l'.drop (i + 1))) := by
  obtain ⟨hi, e⟩ := List.getElem?_eq_some_iff.1 h
  obtain ⟨hi', e'⟩ := List.getElem?_eq_some_iff.1 h'
  rw [List.drop_eq_getElem_cons hi, List.drop_eq_getElem_cons hi', e, e']
  rfl
/-- A function of two nodes that tells whether they are the same. -/
def TwoQ (F : Nat) (ok : Nat → Prop) (w0 : World) (x x' : Nd) : Prop :=
  ∀ v v' w1, Below w0.heap.size w0 w1 → NdVal w1 ok x v → NdVal w1 ok x' v' → Calls Tryz.prog F #[v, v'] w1 (Yes (sameN x x') w1)
set_option maxHeartbeats 4000000 in
set_option maxRecDepth 100000 in
theorem equal_any (ok : Nat → Prop) (l l' : List Nd) (hl : l.length < 2 ^ 62) (y y' : Option Addr) (c c' : Nat) (w : World) (hrow : NdRow w ok l y) (hrow' : NdRow w ok l' y') (h : ∀ x ∈ l, ∀ x' ∈ l', TwoQ 58 ok w x x') :
    Calls Tryz.prog 57 #[.slice y l.length c, .slice y' l'.length c', .func (.func 58) #[] #[]] w (Yes (sameL l l') w) := by
  have e1 := enters_of Tryz.func58 (by kernel_rfl) rfl
  have HROW := Lib.hid hrow
  have HROW' := Lib.hid hrow'
  have HH := Lib.hid h
  obtain ⟨R, hR⟩ : ∃ R, sameL l l' = R := ⟨_, rfl⟩
  have HR := Lib.hid hR
  obtain ⟨n, hn⟩ : ∃ n, l.length = n := ⟨_, rfl⟩
  obtain ⟨n', hn'⟩ : ∃ n, l'.length = n := ⟨_, rfl⟩
  have HN := Lib.hid hn
  have HN' := Lib.hid hn'
  rw [hR]
  rw [hn] at hl ⊢
  rw [hn']
  clear hrow hrow' h hR hn hn'
  by_cases hnn : n = n'
  · subst hnn
    go_enter Tryz.func57, Tryz.ntmps57
    go_wp2_with fail
    go_loopg [17] n (fun gf v wx => ∃ i : Nat, v = .int .i64 i ∧ i + gf = n ∧ Below w.heap.size w wx ∧ Hid (sameL (l.drop i) (l'.drop i) = R))
    case atStart => exact ⟨0, rfl, by omega, Below.refl _ _, HR⟩
    case round =>
      obtain ⟨i, rfl, hi, hb, hS⟩ := hrel
      by_cases hlt : i < n
      · obtain ⟨x, hx⟩ : ∃ x, l[i]? = some x := ⟨l[i]'(by have := HN.out; omega), List.getElem?_eq_getElem _⟩
        obtain ⟨x', hx'⟩ : ∃ x, l'[i]? = some x := ⟨l'[i]'(by have := HN'.out; omega), List.getElem?_eq_getElem _⟩
        have hS2 := hS.out
        rw [sameL_drop hx hx'] at hS2
        have hq := HH.out x (List.mem_of_getElem? hx) x' (List.mem_of_getElem? hx')
        obtain ⟨B, o, rfl, hat⟩ := (HROW.out.below hb).at_ hx
        obtain ⟨B', o', rfl, hat'⟩ := (HROW'.out.below hb).at_ hx'
        obtain ⟨k, nm, m, p⟩ := x
        obtain ⟨k', nm', m', p'⟩ := x'
        obtain ⟨hok, x0, x1, x3, ya, ca, x2, hk⟩ := hat
        obtain ⟨hok', x0', x1', x3', ya', ca', x2', hk'⟩ := hat'
        have hA : ∀ (W : World) o, Below W.heap.size W (W.alloc o) := fun W o => (Below.refl _ _).alloc (Nat.le_refl _) _
        have b1 := hA wr (ndO k nm ya m.length ca p)
        have b2 := hA (wr.alloc (ndO k nm ya m.length ca p)) (ndO k' nm' ya' m'.length ca' p')
        have c1 := hq (.agg #[.int .i64 k, .string ⟨nm.toArray⟩, .slice ya m.length ca, .int .i64 p]) (.agg #[.int .i64 k', .string ⟨nm'.toArray⟩, .slice ya' m'.length ca', .int .i64 p']) _ (tr hb (tr b1 b2)) ⟨ya, ca, rfl, (hk.below b1).below b2⟩ ⟨ya', ca', rfl, (hk'.below b1).below b2⟩
        have a0 := fun o => al_cell x0' o
        have a1 := fun o => al_cell x1' o
        have a2 := fun o => al_cell x2' o
        have a3 := fun o => al_cell x3' o
        have HB := Lib.hid (tr hb (tr b1 b2))
        unfold ndO at c1 HB
        obtain ⟨Bq, hBq⟩ : ∃ B, sameN (.mk k nm m p) (.mk k' nm' m' p') = B := ⟨_, rfl⟩
        rw [hBq] at c1 hS2
        have HS := Lib.hid hS2
        have hlt' : (i : Int) < (n : Int) := by omega
        have Qi1 : IntKind.i64.wrap ((i : Int) + 1) = (i : Int) + 1 := IntWalk.i64_in _ (by omega)
        clear hS hS2 hq hx hx' hk hk' hok hok' hA b1 b2 hBq hb
        go_wp2_with fail
        refine c1.mono ?_
        clear c1
        rintro e w2 ⟨rfl, hb2⟩
        have HB2 := Lib.hid (tr HB.out hb2)
        clear hb2
        cases Bq
        · have HS2 : Hid (R = false) := HS.out.symm
          clear HS
          go_wp2_with fail
          go_ret
          exact ⟨by rw [HS2.out]; rfl, HB2.out⟩
        · have HS2 : Hid (sameL (l.drop (i + 1)) (l'.drop (i + 1)) = R) := HS.out
          clear HS
          go_wp2_with fail
          go_roundg (gk - 1)
          case measure => omega
          case rel => exact ⟨i + 1, rfl, by omega, HB2.out, HS2.out⟩
      · have hS2 := hS.out
        rw [List.drop_of_length_le (by have := HN.out; omega), List.drop_of_length_le (by have := HN'.out; omega)] at hS2
        have HS2 : Hid (R = true) := hS2.symm
        have hlt' : ¬ (i : Int) < (n : Int) := by omega
        clear hS hS2
        go_wp2_with fail
        go_ret
        exact ⟨by rw [HS2.out]; rfl, hb⟩
  · have HS2 : Hid (R = false) := by
      show R = false
      cases hR : R
      · rfl
      · have := sameL_len (HR.out.trans hR)
        have := HN.out
        have := HN'.out
        omega
    have Q : ((n : Int) == (n' : Int)) = false := beq_eq_false_iff_ne.2 (by omega)
    have Q1 : ((n : Int) != (n' : Int)) = true := by simp; omega
    have Q2 : (n != n') = true := by simpa using hnn
    have Q3 : (n == n') = false := by simpa using hnn
    clear hnn
    go_enter Tryz.func57, Tryz.ntmps57
    go_wp2_with fail
    go_ret
    exact ⟨by rw [HS2.out]; rfl, Below.refl _ _⟩
set_option maxHeartbeats 4000000 in
set_option maxRecDepth 100000 in
theorem same1_any (ok : Nat → Prop) (k k' : Int) (n n' : List UInt8) (m m' : List Nd) (p p' : Int) (w : World)
    (h : ∀ y y' c c' w1, Below w.heap.size w w1 → NdRow w1 ok m y → NdRow w1 ok m' y' → Calls Tryz.prog 25 #[.slice y m.length c, .slice y' m'.length c'] w1 (Yes (sameL m m') w1)) :
    TwoQ 58 ok w (.mk k n m p) (.mk k' n' m' p') := by
  intro v v' w1 hb hv hv'
  obtain ⟨y, c, rfl, hrow⟩ := hv
  obtain ⟨y', c', rfl, hrow'⟩ := hv'
  have hA : ∀ (W : World) o, Below W.heap.size W (W.alloc o) := fun W o => (Below.refl _ _).alloc (Nat.le_refl _) _
  have b1 := hA w1 (ndO k n y m.length c p)
  have b2 := hA (w1.alloc (ndO k n y m.length c p)) (ndO k' n' y' m'.length c' p')
  have c1 := h y y' c c' _ (tr hb (tr b1 b2)) ((hrow.below b1).below b2) ((hrow'.below b1).below b2)
  have HB := Lib.hid (tr b1 b2)
  have hf := (Box4.new w1 (.int .i64 k) (.string ⟨n.toArray⟩) (.slice y m.length c) (.int .i64 p))
  have hz : ∀ o, w1.heap.size < (w1.alloc o).heap.size := fun o => by rw [World.size_alloc]; omega
  rw [sameN_two]
  unfold ndO at c1 HB
  obtain ⟨B, hB⟩ : ∃ B, sameL m m' = B := ⟨_, rfl⟩
  rw [hB] at c1 ⊢
  clear h hrow hrow' hb hA b1 b2 hB hf
  by_cases hk : k = k'
  · subst hk
    have Qk : (k == k) = true := beq_self_eq_true k
    by_cases hn : n = n'
    · subst hn
      rw [decide_eq_true rfl, decide_eq_true rfl]
      have Qn : (n == n) = true := beq_self_eq_true n
      go_enter Tryz.func58, Tryz.ntmps58
      go_wp2_with fail
      refine c1.mono ?_
      clear c1
      rintro e w2 ⟨rfl, hb2⟩
      go_wp2_with fail
      go_ret
      exact ⟨by simp, tr HB.out hb2⟩
    · rw [decide_eq_true rfl, decide_eq_false hn]
      have Qn : (n == n') = false := beq_eq_false_iff_ne.2 hn
      clear c1 hn
      go_enter Tryz.func58, Tryz.ntmps58
      go_wp2_with fail
      go_ret
      exact ⟨by simp, HB.out⟩
  · rw [decide_eq_false hk]
    have Qk : (k == k') = false := beq_eq_false_iff_ne.2 hk
    clear c1 hk
    go_enter Tryz.func58, Tryz.ntmps58
    go_wp2_with fail
    go_ret
    exact ⟨by simp, HB.out⟩
set_option maxHeartbeats 4000000 in
set_option maxRecDepth 100000 in
theorem same_any (ok : Nat → Prop) : ∀ (N : Nat) (l l' : List Nd), szL l < N → szL l < 2 ^ 40 → ∀ (y y' : Option Addr) (c c' : Nat) (w : World), NdRow w ok l y → NdRow w ok l' y' →
    Calls Tryz.prog 25 #[.slice y l.length c, .slice y' l'.length c'] w (Yes (sameL l l') w)
  | 0, _, _, h, _, _, _, _, _, _, _, _ => by omega
  | N + 1, l, l', hN, hw, y, y', c, c', w, hrow, hrow' => by
    have hl := len_szL l
    have c1 := equal_any ok l l' (by omega) y y' c c' w hrow hrow' (fun x hx x' _ => by
      obtain ⟨k, n, m, p⟩ := x
      obtain ⟨k', n', m', p'⟩ := x'
      refine same1_any ok k k' n n' m m' p p' w fun z z' d d' w1 hb h1 h2 => ?_
      have := szL_mem hx
      rw [szN_mk] at this
      exact same_any ok N m m' (by omega) (by omega) z z' d d' w1 h1 h2)
    obtain ⟨n, hn⟩ : ∃ n, l.length = n := ⟨_, rfl⟩
    obtain ⟨n', hn'⟩ : ∃ n, l'.length = n := ⟨_, rfl⟩
    obtain ⟨B, hB⟩ : ∃ B, sameL l l' = B := ⟨_, rfl⟩
    rw [hn, hn', hB] at c1 ⊢
    clear hrow hrow' hl hn hn' hB hN hw
    go_enter Tryz.func25, Tryz.ntmps25
    go_wp2_with fail
    refine c1.mono ?_
    clear c1
    rintro e w2 ⟨rfl, hb2⟩
    go_wp2_with fail
    go_ret
    exact ⟨rfl, hb2⟩
end Go.Proofs.YtpbkeamjdolpgaaGreatDoor
namespace Go.Proofs.YtpbkeamjdolpgaaGreatDoor
open Go.RowKit Go.Lib Go.Shelf Go.Sort

set_option maxHeartbeats 4000000 in
set_option maxRecDepth 100000 in
theorem refSame_any (ok : Nat → Prop) : ∀ (N : Nat) (l l' : List Nd), szL l < N → szL l < 2 ^ 40 → ∀ (y y' : Option Addr) (c c' : Nat) (w : World), NdRow w ok l y → NdRow w ok l' y' →
    Calls Tryz.prog 26 #[.slice y l.length c, .slice y' l'.length c'] w (Yes (sameL l l') w)
  | 0, _, _, h, _, _, _, _, _, _, _, _ => by omega
  | N + 1, l, l', hN, hw, y, y', c, c', w, hrow, hrow' => by
    have ih := refSame_any ok N
    have hl := len_szL l
    have HROW := Lib.hid hrow
    have HROW' := Lib.hid hrow'
    have HIH := Lib.hid ih
    have HSZ := Lib.hid hN
    have HW := Lib.hid hw
    obtain ⟨R, hR⟩ : ∃ R, sameL l l' = R := ⟨_, rfl⟩
    have HR := Lib.hid hR
    obtain ⟨n, hn⟩ : ∃ n, l.length = n := ⟨_, rfl⟩
    obtain ⟨n', hn'⟩ : ∃ n, l'.length = n := ⟨_, rfl⟩
    have HN := Lib.hid hn
    have HN' := Lib.hid hn'
    have hnn : n < 2 ^ 62 := by omega
    rw [hR, hn, hn']
    clear hrow hrow' ih hR hN hw hl hn hn'
    by_cases hq : n = n'
    · subst hq
      go_enter Tryz.func26, Tryz.ntmps26
      go_wp2_with fail
      go_loopg [5] n (fun gf v wx => ∃ i : Nat, v = .int .i64 i ∧ i + gf = n ∧ Below w.heap.size w wx ∧ Hid (sameL (l.drop i) (l'.drop i) = R))
      case atStart => exact ⟨0, rfl, by omega, Below.refl _ _, HR⟩
      case round =>
        obtain ⟨i, rfl, hi, hb, hS⟩ := hrel
        by_cases hlt : i < n
        · obtain ⟨x, hx⟩ : ∃ x, l[i]? = some x := ⟨l[i]'(by have := HN.out; omega), List.getElem?_eq_getElem _⟩
          obtain ⟨x', hx'⟩ : ∃ x, l'[i]? = some x := ⟨l'[i]'(by have := HN'.out; omega), List.getElem?_eq_getElem _⟩
          have hS2 := hS.out
          rw [sameL_drop hx hx'] at hS2
          obtain ⟨B, o, rfl, hat⟩ := (HROW.out.below hb).at_ hx
          obtain ⟨B', o', rfl, hat'⟩ := (HROW'.out.below hb).at_ hx'
          obtain ⟨k, nm, m, p⟩ := x
          obtain ⟨k', nm', m', p'⟩ := x'
          obtain ⟨hok, x0, x1, x3, ya, ca, x2, hk⟩ := hat
          obtain ⟨hok', x0', x1', x3', ya', ca', x2', hk'⟩ := hat'
          have hks := kids_lt hx
          have cE := fun d os => Calls.regrown_of (HIH.out m m' (by have := HSZ.out; omega) (by have := HW.out; omega) ya ya' ca ca' _ (hk.below (below_regrown wr d os)) (hk'.below (below_regrown wr d os)))
          rw [sameN_two] at hS2
          have HS := Lib.hid hS2
          have hlt' : (i : Int) < (n : Int) := by omega
          have Qi1 : IntKind.i64.wrap ((i : Int) + 1) = (i : Int) + 1 := IntWalk.i64_in _ (by omega)
          have q0 := cell_regrown x0
          have q1 := cell_regrown x1
          have q2 := cell_regrown x2
          have q0' := cell_regrown x0'
          have q1' := cell_regrown x1'
          have q2' := cell_regrown x2'
          obtain ⟨Bq, hBq⟩ : ∃ B, sameL m m' = B := ⟨_, rfl⟩
          rw [hBq] at cE HS
          clear hS hS2 hx hx' hk hk' hok hok' hks hBq
          go_wp2_with fail
          refine wp_region_quiet_below (by kernel_rfl) (by kernel_rfl) ?_
          repeat (go_big_quiet_step (exact cE _ _))
          refine wpQuiet_nil ?_
          intro _ hw'
          obtain ⟨⟨dq, osq⟩, hw''⟩ := hw'
          subst hw''
          have hb2 := below_regrown wr dq osq
          have z0 := cell_regrown x0 dq osq
          have z1 := cell_regrown x1 dq osq
          have z0' := cell_regrown x0' dq osq
          have z1' := cell_regrown x1' dq osq
          generalize grow (redrawn wr dq) osq = w2 at *
          clear q0 q1 q2 q0' q1' q2' cE
          have HB2 := Lib.hid (tr hb hb2)
          clear hb hb2
          cases Bq
          · have HS3 : Hid (R = false) := by
              have := HS.out
              simp at this
              exact this
            clear HS
            go_wp2_with fail
            go_quiet (fail)
            go_wp2_with fail
            go_ret
            exact ⟨by rw [HS3.out]; rfl, bdn HB2.out _⟩
          · by_cases hk : k = k'
            · subst hk
              have Qk : (k != k) = false := by simp
              have Qk2 : (k == k) = true := by simp
              by_cases hn : nm = nm'
              · subst hn
                have Qn : (nm != nm) = false := by simp
                have Qn2 : (nm == nm) = true := by simp
                have HS3 : Hid (sameL (l.drop (i + 1)) (l'.drop (i + 1)) = R) := by
                  have := HS.out
                  simp at this
                  exact this
                clear HS
                go_wp2_with fail
                go_quiet (fail)
                go_wp2_with fail
                go_roundg (gk - 1)
                case measure => omega
                case rel => exact ⟨i + 1, rfl, by omega, bdn HB2.out _, HS3.out⟩
              · have Qn : (nm != nm') = true := by simpa using hn
                have Qn2 : (nm == nm') = false := by simpa using hn
                have HS3 : Hid (R = false) := by
                  have := HS.out
                  simp [hn] at this
                  exact this
                clear HS hn
                go_wp2_with fail
                go_quiet (fail)
                go_wp2_with fail
                go_ret
                exact ⟨by rw [HS3.out]; rfl, bdn HB2.out _⟩
            · have Qk : (k != k') = true := by simpa using hk
              have Qk2 : (k == k') = false := by simpa using hk
              have HS3 : Hid (R = false) := by
                have := HS.out
                simp [hk] at this
                exact this
              clear HS hk
              go_wp2_with fail
              go_quiet (fail)
              go_wp2_with fail
              go_ret
              exact ⟨by rw [HS3.out]; rfl, bdn HB2.out _⟩
        · have hS2 := hS.out
          rw [List.drop_of_length_le (by have := HN.out; omega), List.drop_of_length_le (by have := HN'.out; omega)] at hS2
          have HS2 : Hid (R = true) := hS2.symm
          have hlt' : ¬ (i : Int) < (n : Int) := by omega
          clear hS hS2
          go_wp2_with fail
          go_ret
          exact ⟨by rw [HS2.out]; rfl, hb⟩
    · have HS2 : Hid (R = false) := by
        show R = false
        cases hR : R
        · rfl
        · have := sameL_len (HR.out.trans hR)
          have := HN.out
          have := HN'.out
          omega
      have Q : ((n : Int) == (n' : Int)) = false := beq_eq_false_iff_ne.2 (by omega)
      have Q1 : ((n : Int) != (n' : Int)) = true := by simp; omega
      have Q2 : (n != n') = true := by simpa using hq
      have Q3 : (n == n') = false := by simpa using hq
      clear hq
      go_enter Tryz.func26, Tryz.ntmps26
      go_wp2_with fail
      go_ret
      exact ⟨by rw [HS2.out]; rfl, Below.refl _ _⟩
end Go.Proofs.YtpbkeamjdolpgaaGreatDoor
namespace Go.Proofs.YtpbkeamjdolpgaaGreatDoor
open Go.RowKit Go.Lib Go.Shelf Go.Sort

set_option maxHeartbeats 4000000 in
set_option maxRecDepth 100000 in
theorem treeSame_any (l l' : List Nd) (hok : OkL l) (hll : l.length < 2 ^ 62) (hok' : OkL l') (hll' : l'.length < 2 ^ 62) (ok : Nat → Prop) (y y' : Option Addr) (c c' : Nat) (w : World) (hG : GlT w) (hrow : NdRow w ok l y) (hrow' : NdRow w ok l' y') :
    Calls Tryz.prog 5 #[.slice y l.length c, .slice y' l'.length c'] w fun e w' => e = .returned (.bool true) ∧ Below w.heap.size w w' := by
  have c0 := works_any w hG
  have HROW := Lib.hid hrow
  have HROW' := Lib.hid hrow'
  have HG := Lib.hid hG
  have HOK := Lib.hid hok
  have HLL := Lib.hid hll
  have HOK' := Lib.hid hok'
  have HLL' := Lib.hid hll'
  obtain ⟨n, hn⟩ : ∃ n, l.length = n := ⟨_, rfl⟩
  obtain ⟨n', hn'⟩ : ∃ n, l'.length = n := ⟨_, rfl⟩
  have HN := Lib.hid hn
  have HN' := Lib.hid hn'
  rw [hn, hn']
  clear hrow hrow' hG hok hll hok' hll' hn hn'
  go_enter Tryz.func5, Tryz.ntmps5
  go_wp2_with fail
  refine c0.mono ?_
  clear c0
  rintro e w1 ⟨rfl, hb1⟩
  have c1 := beyond_any ok l HOK.out HLL.out y c w1 (HROW.out.below hb1)
  rw [HN.out] at c1
  have HB1 := Lib.hid hb1
  clear hb1
  go_wp2_with fail
  refine c1.mono ?_
  clear c1
  rintro e w2 ⟨⟨r, rfl, hr⟩, hb2⟩
  have HB2 := Lib.hid (tr HB1.out hb2)
  have HR := Lib.hid hr
  clear hb2 hr
  cases r
  · have c2 := beyond_any ok l' HOK'.out HLL'.out y' c' w2 (HROW'.out.below HB2.out)
    rw [HN'.out] at c2
    go_wp2_with fail
    refine c2.mono ?_
    clear c2
    rintro e w3 ⟨⟨r', rfl, _⟩, hb3⟩
    have HB3 := Lib.hid (tr HB2.out hb3)
    clear hb3
    cases r'
    · have hsz : szL l < 2 ^ 40 := by have := sz_wtL l; have := HR.out (by trivial); omega
      have c3 := same_any ok (szL l + 1) l l' (Nat.lt_succ_self _) hsz y y' c c' w3 (HROW.out.below HB3.out) (HROW'.out.below HB3.out)
      rw [HN.out, HN'.out] at c3
      have HSZ := Lib.hid hsz
      obtain ⟨B, hB⟩ : ∃ B, sameL l l' = B := ⟨_, rfl⟩
      rw [hB] at c3
      have HBB := Lib.hid hB
      clear hsz hB
      go_wp2_with fail
      refine c3.mono ?_
      clear c3
      rintro e w4 ⟨rfl, hb4⟩
      have HB4 := Lib.hid (tr HB3.out hb4)
      have c4 := refSame_any ok (szL l + 1) l l' (Nat.lt_succ_self _) HSZ.out y y' c c' w4 (HROW.out.below HB4.out) (HROW'.out.below HB4.out)
      rw [HN.out, HN'.out, HBB.out] at c4
      have QB : (B == B) = true := by simp
      clear hb4
      go_wp2_with fail
      refine c4.mono ?_
      clear c4
      rintro e w5 ⟨rfl, hb5⟩
      have HB5 := Lib.hid (tr HB4.out hb5)
      have c5 := same_any ok (szL l + 1) l l (Nat.lt_succ_self _) HSZ.out y y c c w5 (HROW.out.below HB5.out) (HROW.out.below HB5.out)
      rw [HN.out, sameL_refl] at c5
      clear hb5
      go_wp2_with fail
      refine c5.mono ?_
      clear c5
      rintro e w6 ⟨rfl, hb6⟩
      go_wp2_with fail
      go_ret
      exact ⟨by simp, tr HB5.out hb6⟩
    · have c3 := works_any w3 (HG.out.below HB3.out)
      go_wp2_with fail
      refine c3.mono ?_
      clear c3
      rintro e w4 ⟨rfl, hb4⟩
      go_wp2_with fail
      go_ret
      exact ⟨rfl, tr HB3.out hb4⟩
  · have c2 := works_any w2 (HG.out.below HB2.out)
    go_wp2_with fail
    refine c2.mono ?_
    clear c2
    rintro e w3 ⟨rfl, hb3⟩
    go_wp2_with fail
    go_ret
    exact ⟨rfl, tr HB2.out hb3⟩
end Go.Proofs.YtpbkeamjdolpgaaGreatDoor
namespace Go.Proofs.YtpbkeamjdolpgaaGreatDoor

theorem same_split {k k' : Int} {n n' : List UInt8} {l l' : List Nd} {p p' : Int} (h : sameN (.mk k n l p) (.mk k' n' l' p') = true) : k = k' ∧ n = n' ∧ sameL l l' = true := by
  have h' : (decide (k = k') && decide (n = n') && sameL l l') = true := by rw [sameN] at h; exact h
  simp only [Bool.and_eq_true, decide_eq_true_eq] at h'
  exact ⟨h'.1.1, h'.1.2, h'.2⟩
theorem same_cons {x y : Nd} {r r' : List Nd} (h : sameL (x :: r) (y :: r') = true) : sameN x y = true ∧ sameL r r' = true := by
  have h' : (sameN x y && sameL r r') = true := by rw [sameL] at h; exact h
  simpa using h'
theorem same_tight {k : Int} {n : List UInt8} {l l' : List Nd} {p p' : Int} (h : l.length = l'.length) : tightR (.mk k n l p) = tightR (.mk k n l' p') := by
  show (if k = 15 then 0 else if k = 12 then (if l.length = 2 then levelS n else 6) else if k = 14 then 7 else 8) = (if k = 15 then 0 else if k = 12 then (if l'.length = 2 then levelS n else 6) else if k = 14 then 7 else 8)
  rw [h]
mutual
theorem same_exT : ∀ (x y : Nd) (a : Nat), sameN x y = true → exT x a = exT y a
  | .mk k n l p, .mk k' n' l' p', a, h => by
    obtain ⟨rfl, rfl, hl⟩ := same_split h
    rw [exT, exT, same_tight (p := p) (p' := p') (sameL_len hl), same_exTs l l' _ hl, same_ex0s l l' hl, same_grT l l' hl, sameL_len hl]
theorem same_exTs : ∀ (l m : List Nd) (b : List Nat), sameL l m = true → exTs l b = exTs m b
  | [], [], _, _ => rfl
  | [], _ :: _, _, h => by cases h
  | _ :: _, [], _, h => by cases h
  | x :: r, y :: r', [], _ => by rw [exTs, exTs] <;> simp
  | x :: r, y :: r', a :: b, h => by
    rw [exTs, exTs, same_exT x y a (same_cons h).1, same_exTs r r' b (same_cons h).2]
theorem same_ex0s : ∀ (l m : List Nd), sameL l m = true → ex0s l = ex0s m
  | [], [], _ => rfl
  | [], _ :: _, h => by cases h
  | _ :: _, [], h => by cases h
  | x :: r, y :: r', h => by
    rw [ex0s, ex0s, same_exT x y 0 (same_cons h).1, same_ex0s r r' (same_cons h).2]
theorem same_grT : ∀ (l m : List Nd), sameL l m = true → grT l = grT m
  | [], [], _ => rfl
  | [], _ :: _, h => by cases h
  | _ :: _, [], h => by cases h
  | .mk k n l p :: r, .mk k' n' l' p' :: r', h => by
    rw [grT, grT]
    exact same_ex0s l l' (same_split (same_cons h).1).2.2
end
mutual
theorem same_stT : ∀ (x y : Nd) (pad : List UInt8), sameN x y = true → stT x pad = stT y pad
  | .mk k n l p, .mk k' n' l' p', pad, h => by
    obtain ⟨rfl, rfl, hl⟩ := same_split h
    rw [stT, stT]
    unfold ex0At rowT
    rw [same_ex0s l l' hl, same_grT l l' hl, same_blksT l l' pad hl, sameL_len hl]
theorem same_blksT : ∀ (l m : List Nd) (pad : List UInt8), sameL l m = true → blksT l pad = blksT m pad
  | [], [], _, _ => rfl
  | [], _ :: _, _, h => by cases h
  | _ :: _, [], _, h => by cases h
  | .mk k n l p :: r, .mk k' n' l' p' :: r', pad, h => by
    rw [blksT, blksT, same_stsT l l' _ (same_split (same_cons h).1).2.2, same_blksT r r' pad (same_cons h).2]
theorem same_stsT : ∀ (l m : List Nd) (pad : List UInt8), sameL l m = true → stsT l pad = stsT m pad
  | [], [], _, _ => rfl
  | [], _ :: _, _, h => by cases h
  | _ :: _, [], _, h => by cases h
  | x :: r, y :: r', pad, h => by
    rw [stsT, stsT, same_stT x y pad (same_cons h).1, same_stsT r r' pad (same_cons h).2]
end
mutual
theorem same_deepN : ∀ (x y : Nd) (d : Nat), sameN x y = true → deepN x d = none → deepN y d = none
  | .mk k n l p, .mk k' n' l' p', d, h => by
    rw [deepN, deepN]
    exact same_deepL l l' (d + 1) (same_split h).2.2
theorem same_deepL : ∀ (l m : List Nd) (d : Nat), sameL l m = true → deepL l d = none → deepL m d = none
  | [], [], _, _ => fun h => h
  | [], _ :: _, _, h => by cases h
  | _ :: _, [], _, h => by cases h
  | x :: r, y :: r', d, h => by
    rw [deepL, deepL]
    by_cases hd : 64 < d
    · rw [if_pos hd]
      intro h2
      cases h2
    · rw [if_neg hd, if_neg hd]
      cases hx : deepN x d with
      | some z =>
        intro h2
        cases h2
      | none =>
        rw [same_deepN x y d (same_cons h).1 hx]
        exact same_deepL r r' d (same_cons h).2
end
theorem same_nil {l l' : List Nd} (h : sameL l l' = true) : l.isEmpty = l'.isEmpty := by
  cases l <;> cases l' <;> first | rfl | cases h
mutual
theorem same_exR : ∀ (x y : Nd), sameN x y = true → exR x = exR y
  | .mk k n l p, .mk k' n' l' p', h => by
    obtain ⟨rfl, rfl, hl⟩ := same_split h
    rw [exR, exR, same_nil hl, same_exsR l l' hl, same_shR l l' [8] hl, sameL_len hl]
theorem same_exsR : ∀ (l m : List Nd), sameL l m = true → exsR l = exsR m
  | [], [], _ => rfl
  | [], _ :: _, h => by cases h
  | _ :: _, [], h => by cases h
  | x :: r, y :: r', h => by
    rw [exsR, exsR, same_exR x y (same_cons h).1, same_exsR r r' (same_cons h).2]
theorem same_stR : ∀ (x y : Nd), sameN x y = true → stR x = stR y
  | .mk k n l p, .mk k' n' l' p', h => by
    obtain ⟨rfl, rfl, hl⟩ := same_split h
    rw [stR, stR, sameL_len hl, same_shR l l' [-1] hl, same_shR l l' [4, 0] hl, same_shR l l' [4, -1] hl, same_shR l l' [-1, 0] hl, same_shR l l' _ hl, same_shR l l' _ hl]
theorem same_stsR : ∀ (l m : List Nd), sameL l m = true → stsR l = stsR m
  | [], [], _ => rfl
  | [], _ :: _, h => by cases h
  | _ :: _, [], h => by cases h
  | x :: r, y :: r', h => by
    rw [stsR, stsR, same_stR x y (same_cons h).1, same_stsR r r' (same_cons h).2]
theorem same_parsR : ∀ (l m : List Nd), sameL l m = true → parsR l = parsR m
  | [], [], _ => rfl
  | [], _ :: _, h => by cases h
  | _ :: _, [], h => by cases h
  | .mk k n l p :: r, .mk k' n' l' p' :: r', h => by
    have e := (same_split (same_cons h).1).1
    rw [parsR, parsR, same_exR (.mk k n l p) (.mk k' n' l' p') (same_cons h).1, same_parsR r r' (same_cons h).2]
    show (decide (k = 10) && _ && _) = (decide (k' = 10) && _ && _)
    rw [e]
theorem same_partR : ∀ (x y : Nd), sameN x y = true → partR x = partR y
  | .mk k n l p, .mk k' n' l' p', h => by
    obtain ⟨rfl, rfl, hl⟩ := same_split h
    rw [partR, partR, same_stsR l l' hl, same_parsR l l' hl, same_exsR l l' hl]
theorem same_shR : ∀ (l m : List Nd) (b : List Int), sameL l m = true → shR b l = shR b m
  | [], [], _, _ => rfl
  | [], _ :: _, _, h => by cases h
  | _ :: _, [], _, h => by cases h
  | .mk k n l p :: r, .mk k' n' l' p' :: r', [], _ => by rw [shR, shR] <;> simp
  | .mk k n l p :: r, .mk k' n' l' p' :: r', a :: b, h => by
    have e := (same_split (same_cons h).1).1
    rw [shR, shR, same_exR (.mk k n l p) (.mk k' n' l' p') (same_cons h).1, same_partR (.mk k n l p) (.mk k' n' l' p') (same_cons h).1, same_shR r r' b (same_cons h).2]
    show ((if a < 0 then _ else decide (k = a) && _) && _) = ((if a < 0 then _ else decide (k' = a) && _) && _)
    rw [e]
end
end Go.Proofs.YtpbkeamjdolpgaaGreatDoor
