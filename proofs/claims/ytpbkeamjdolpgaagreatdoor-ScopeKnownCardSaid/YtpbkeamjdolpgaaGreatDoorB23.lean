/- The walk of tree.Print. Plain: how long a right tree's text is at most. The walk of the statements' works. The walk of the statements' beyond. Plain: what a parser tells hangs on the kinds and texts of tokens alone; what it takes from tokens it takes from more tokens too. -/
import Derived.Test.YtpbkeamjdolpgaaGreatDoorB22
import Derived.Test.YtpbkeamjdolpgaaGreatDoorB06
import Derived.Test.YtpbkeamjdolpgaaGreatDoorB04
import Derived.Test.YtpbkeamjdolpgaaGreatDoorB08
import Derived.Test.YtpbkeamjdolpgaaGreatDoorB20
import Derived.Test.YtpbkeamjdolpgaaGreatDoorB03
import Derived.StillTailTactics
import Derived.Laws.EntriesVeiled
import Derived.BigQuiet
import Derived.Deep.QuietTactic
import Derived.Test.YtpbkeamjdolpgaaGreatDoorB02
namespace Go.Proofs.YtpbkeamjdolpgaaGreatDoor
open Go.RowKit Go.Lib Go.Shelf Go.Sort

/-- Right statements are written as they must be. -/
theorem sts_all : ∀ (N : Nat) (l : List Nd) (pad : List UInt8), wtL l < N → wtL l < 2 ^ 40 → stsR l = true → StP l pad
  | 0, _, _, h, _, _ => by omega
  | N + 1, l, pad, hN, hw, hR => stmts_p l pad hR hw fun x hx hk => by
    obtain ⟨k, n, m, p⟩ := x
    have e : wtN (.mk k n m p) = wtL m + n.length + 1 := wtN_mk _ _ _ _
    exact block_p _ pad (sts_all N m (pad ++ [32, 32]) (by omega) (by omega) hk)
theorem PrOw.toBelow {b : Nat} {g' : Option Nat} {w w' : World} (h : PrOw b none g' w w') {B : Nat} (hB : B ≤ b) (hB2 : B ≤ w.heap.size) : Below B w w' :=
  ⟨h.os, h.tape, h.output, h.size, fun k hk => h.block k (by omega) (by omega) (by simp)⟩
theorem PrSt.new (w : World) : PrSt w.heap.size [] (w.alloc (.cells #[.pointer none, .slice none 0 0] 87)) none :=
  ⟨.pointer none, .slice none 0 0, .inl rfl, heap_alloc_new w _, World.ownsRow_nil _ _ _ _, rfl⟩
def prT (X : List UInt8) (R : Except Flt (List Tk)) : List UInt8 × Int := match R with
  | .ok _ => (X, 0)
  | .error _ => ([], 3)
theorem printR_of {l : List Nd} (h : checkR l = 0) : printR l = prT (stsT l []) (tokensL (stsT l [])) := by
  unfold printR prT
  rw [if_pos h]
  cases tokensL (stsT l []) <;> rfl
/-- What tree.Print hands back. -/
def PrintEnd (R : List UInt8 × Int) (w : World) (e : Ending) (w' : World) : Prop :=
  Below w.heap.size w w' ∧ e = .returned (.tuple #[.string ⟨R.1.toArray⟩, .int .i64 R.2])
set_option maxHeartbeats 4000000 in
set_option maxRecDepth 100000 in
theorem print_any (ok : Nat → Prop) (l : List Nd) (hw : wtL l < 2 ^ 40) (hT : checkR l = 0 → (stsT l []).length ≤ 2 ^ 46) (y : Option Addr) (c : Nat) (w : World) (hG : Gl w) (hrow : NdRow w ok l y) :
    Calls Tryz.prog 21 #[.slice y l.length c] w (PrintEnd (printR l) w) := by
  have c0 := check_any ok l hw y c w hG hrow
  by_cases hC : checkR l = 0
  · have hR : stsR l = true := by
      unfold checkR at hC
      split at hC
      · cases hC
      · cases hs : stsR l
        · rw [hs] at hC
          cases hC
        · rfl
    have C1 := Lib.hid (sts_all (wtL l + 1) l [] (Nat.lt_succ_self _) hw hR)
    have HT := Lib.hid (hT hC)
    have HROW := Lib.hid (hrow.wide (ok' := fun k => k < w.heap.size) fun k _ hk => hk)
    have HG := Lib.hid hG
    obtain ⟨X, hX⟩ : ∃ X, stsT l [] = X := ⟨_, rfl⟩
    obtain ⟨R, hR2⟩ : ∃ R, tokensL X = R := ⟨_, rfl⟩
    have HP : Hid (printR l = prT X R) := by
      show _ = _
      rw [printR_of hC, hX, hR2]
    obtain ⟨PR, hPR⟩ : ∃ PR, printR l = PR := ⟨_, rfl⟩
    rw [hPR] at HP ⊢
    rw [hX] at HT
    rw [hC] at c0
    have HX := Lib.hid hX
    have HR2 := Lib.hid hR2
    obtain ⟨n, hn⟩ : ∃ n, l.length = n := ⟨_, rfl⟩
    have HN := Lib.hid hn
    rw [hn] at c0 ⊢
    clear hR hC hT hX hR2 hrow hG hPR hn hw
    go_enter Tryz.func21, Tryz.ntmps21
    go_wp2_with fail
    refine c0.mono ?_
    clear c0
    rintro e w1 ⟨rfl, hb1⟩
    have HB1 := Lib.hid hb1
    have hA : Below w1.heap.size w1 (w1.alloc (.cells #[.pointer none, .slice none 0 0] 87)) := (Below.refl _ _).alloc (Nat.le_refl _) _
    have c1 := C1.out w1.heap.size [] none _ y c (PrSt.new w1) (((HROW.out.below hb1).below hA).wide fun k hk _ => Nat.lt_of_lt_of_le hk hb1.size) (by rw [HX.out]; simpa using HT.out)
    have HA := Lib.hid hA
    rw [HN.out, HX.out] at c1
    clear hb1 hA C1
    go_wp2_with fail
    refine c1.mono ?_
    clear c1
    rintro e w2 ⟨rfl, g2, hp, ho⟩
    have hb2 := HB1.out.trans ((HA.out.mono HB1.out.size).trans (ho.toBelow HB1.out.size (Nat.le_trans HB1.out.size HA.out.size)))
    have c2 := string_any _ _ _ _ hp
    have HB2 := Lib.hid hb2
    rw [List.nil_append] at c2
    clear hp ho hb2
    go_wp2_with fail
    refine c2.mono ?_
    clear c2
    rintro e w3 ⟨rfl, hb3⟩
    have hb4 := HB2.out.trans (hb3.mono HB1.out.size)
    have c3 := tokens_all ⟨X.toArray⟩ w3 (HG.out.below hb4)
    have HB4 := Lib.hid hb4
    rw [show (⟨X.toArray⟩ : ByteArray).data.toList = X by simp, HR2.out] at c3
    clear hb3 hb4
    go_wp2_with fail
    refine c3.mono ?_
    clear c3
    rintro e w4 ⟨hb5, h⟩
    have hb6 := HB4.out.trans (hb5.mono HB4.out.size)
    have HB6 := Lib.hid hb6
    clear hb5 hb6
    cases R with
    | ok ts =>
      obtain ⟨v, rfl, _⟩ := h
      have HP2 : Hid (PR = (X, 0)) := HP.out
      clear HP
      go_wp2_with fail
      go_ret2
      exact ⟨HB6.out, by rw [HP2.out]; rfl⟩
    | error f =>
      obtain ⟨bf, _, rfl, _⟩ := h
      have HP2 : Hid (PR = ([], 3)) := HP.out
      clear HP
      go_wp2_with fail
      go_ret2
      exact ⟨HB6.out, by rw [HP2.out]; rfl⟩
  · have hP : printR l = ([], checkR l) := by
      unfold printR
      rw [if_neg hC]
    rw [hP]
    obtain ⟨R, hR⟩ : ∃ R, checkR l = R := ⟨_, rfl⟩
    rw [hR] at c0 hC ⊢
    obtain ⟨n, hn⟩ : ∃ n, l.length = n := ⟨_, rfl⟩
    rw [hn] at c0 ⊢
    have Q : (R == 0) = false := beq_eq_false_iff_ne.2 hC
    have Q2 : (R != 0) = true := by simpa using hC
    clear hT hrow hG hP hR hn hw hC
    go_enter Tryz.func21, Tryz.ntmps21
    go_wp2_with fail
    refine c0.mono ?_
    clear c0
    rintro e w1 ⟨rfl, hb1⟩
    have HB1 := Lib.hid hb1
    clear hb1
    go_wp2_with fail
    go_ret2
    exact ⟨HB1.out, rfl⟩
end Go.Proofs.YtpbkeamjdolpgaaGreatDoor
namespace Go.Proofs.YtpbkeamjdolpgaaGreatDoor

def lenS (l : List (List UInt8)) : Nat := (l.map List.length).sum
theorem joinC_len : ∀ l : List (List UInt8), (joinC l).length ≤ lenS l + 2 * l.length
  | [] => by simp [joinC, lenS]
  | x :: r => by
    have : ∀ r : List (List UInt8), (r.flatMap fun y => [44, 32] ++ y).length ≤ lenS r + 2 * r.length := by
      intro r
      induction r with
      | nil => simp [lenS]
      | cons y t ih =>
        simp only [List.flatMap_cons, List.length_append, lenS, List.map_cons, List.sum_cons, List.length_cons] at ih ⊢
        simp at ih ⊢
        omega
    have h := this r
    show (x ++ _).length ≤ _
    simp only [List.length_append, lenS, List.map_cons, List.sum_cons, List.length_cons] at h ⊢
    omega
theorem wtN_pos (x : Nd) : 0 < wtN x := by
  obtain ⟨k, n, l, p⟩ := x
  rw [wtN_mk]
  omega
theorem ex_len : ∀ (N : Nat) (x : Nd) (a : Nat), wtN x < N → exR x = true → (exT x a).length + 2 ≤ 20 * wtN x
  | 0, _, _, h, _ => by omega
  | N + 1, x, a, hN, hR => by
    have ih := fun (y : Nd) (b : Nat) (h : wtN y < wtN x) (hy : exR y = true) => ex_len N y b (by omega) hy
    have k1 : ∀ {k n l p} {y : Nd}, x = .mk k n l p → y ∈ l → wtN y < wtN x := fun e hy => e ▸ kid_wt hy
    have row : ∀ l : List Nd, (∀ y ∈ l, wtN y < wtN x ∧ exR y = true) → (joinC (ex0s l)).length ≤ 20 * wtL l := by
      intro l
      have h : ∀ l : List Nd, (∀ y ∈ l, wtN y < wtN x ∧ exR y = true) → lenS (ex0s l) + 2 * (ex0s l).length ≤ 20 * wtL l := by
        intro l
        induction l with
        | nil => intro _; simp [ex0s, lenS]
        | cons y r ihr =>
          intro hy
          have h1 := ih y 0 (hy y (by simp)).1 (hy y (by simp)).2
          have h2 := ihr fun z hz => hy z (by simp [hz])
          show lenS (exT y 0 :: ex0s r) + 2 * (exT y 0 :: ex0s r).length ≤ 20 * (wtN y + wtL r)
          simp only [lenS, List.map_cons, List.sum_cons, List.length_cons] at h2 ⊢
          omega
      intro hy
      exact Nat.le_trans (joinC_len _) (h l hy)
    have body : ∀ (k : Int) (n : List UInt8) (l : List Nd) (p : Int) (B : List UInt8), exT (.mk k n l p) a = parT (decide (tightR (.mk k n l p) < a)) B → B.length + 4 ≤ 20 * wtN (.mk k n l p) → (exT (.mk k n l p) a).length + 2 ≤ 20 * wtN (.mk k n l p) := by
      intro k n l p B he hB
      rw [he]
      unfold parT
      split
      · simp
        omega
      · omega
    cases exC_of hR with
    | num s p h => exact body _ _ _ _ s (by rw [exT]; rfl) (by rw [wtN_mk]; omega)
    | name s p h => exact body _ _ _ _ s (by rw [exT]; rfl) (by rw [wtN_mk]; omega)
    | list l p h =>
      have h1 := row l fun y hy => ⟨k1 rfl hy, exsR_mem h y hy⟩
      refine body _ _ _ _ ([91] ++ joinC (ex0s l) ++ [93]) (by rw [exT]; rfl) ?_
      rw [wtN_mk]
      simp
      omega
    | one s y p h1 h2 =>
      have e1 := ih y 6 (k1 rfl (by simp)) h2
      refine body _ _ _ _ (s ++ exT y 6) (by rw [exT]; rfl) ?_
      rw [wtN_mk]
      simp [wtL]
      omega
    | two s y z p h1 h2 h3 =>
      have e1 := ih y (if tightR (.mk 12 s [y, z] p) = 3 then 4 else tightR (.mk 12 s [y, z] p)) (k1 rfl (by simp)) h2
      have e2 := ih z (tightR (.mk 12 s [y, z] p) + 1) (k1 rfl (by simp)) h3
      refine body _ _ _ _ (exT y (if tightR (.mk 12 s [y, z] p) = 3 then 4 else tightR (.mk 12 s [y, z] p)) ++ ([32] ++ s ++ [32]) ++ exT z (tightR (.mk 12 s [y, z] p) + 1)) (by rw [exT]; rfl) ?_
      rw [wtN_mk]
      simp only [List.length_append, List.length_cons, List.length_nil, wtL]
      omega
    | apply s l q p h1 h2 =>
      have hk := k1 (y := .mk 8 [] l q) rfl (by simp)
      have hk2 : wtN (.mk 8 [] l q) = wtL l + 0 + 1 := wtN_mk _ _ _ _
      have h3 := row l fun y hy => ⟨by have := wtL_mem hy; omega, exsR_mem h2 y hy⟩
      refine body _ _ _ _ (s ++ [40] ++ joinC (ex0s l) ++ [41]) (by rw [exT]; rfl) ?_
      rw [wtN_mk]
      simp only [List.length_append, List.length_cons, List.length_nil, wtL, hk2]
      omega
    | index y z p h1 h2 =>
      have e1 := ih y 7 (k1 rfl (by simp)) h1
      have e2 := ih z 0 (k1 rfl (by simp)) h2
      refine body _ _ _ _ (exT y 7 ++ [91] ++ exT z 0 ++ [93]) (by rw [exT]; rfl) ?_
      rw [wtN_mk]
      simp only [List.length_append, List.length_cons, List.length_nil, wtL]
      omega
    | pick y z u p h1 h2 h3 =>
      have e1 := ih y 1 (k1 rfl (by simp)) h1
      have e2 := ih z 0 (k1 rfl (by simp)) h2
      have e3 := ih u 0 (k1 rfl (by simp)) h3
      refine body _ _ _ _ (exT y 1 ++ [32, 63, 32] ++ exT z 0 ++ [32, 58, 32] ++ exT u 0) (by rw [exT]; rfl) ?_
      rw [wtN_mk]
      simp only [List.length_append, List.length_cons, List.length_nil, wtL]
      omega
theorem row_len (l : List Nd) (h : ∀ y ∈ l, exR y = true) : (joinC (ex0s l)).length ≤ 20 * wtL l := by
  refine Nat.le_trans (joinC_len _) ?_
  induction l with
  | nil => simp [ex0s, lenS]
  | cons y r ihr =>
    have h1 := ex_len (wtN y + 1) y 0 (Nat.lt_succ_self _) (h y (by simp))
    have h2 := ihr fun z hz => h z (by simp [hz])
    show lenS (exT y 0 :: ex0s r) + 2 * (exT y 0 :: ex0s r).length ≤ 20 * (wtN y + wtL r)
    simp only [lenS, List.map_cons, List.sum_cons, List.length_cons] at h2 ⊢
    omega
theorem deepN_mk (k : Int) (n : List UInt8) (l : List Nd) (p : Int) (d : Nat) : deepN (.mk k n l p) d = deepL l (d + 1) := by rw [deepN]
theorem deepL_none {l : List Nd} {d : Nat} (h : deepL l d = none) : ∀ x ∈ l, d ≤ 64 ∧ deepN x d = none := by
  induction l with
  | nil => simp
  | cons y r ih =>
    intro x hx
    have h' : (if 64 < d then some y else match deepN y d with
      | some z => some z
      | none => deepL r d) = none := h
    by_cases hd : 64 < d
    · rw [if_pos hd] at h'
      cases h'
    · rw [if_neg hd] at h'
      cases hy : deepN y d with
      | some z =>
        rw [hy] at h'
        cases h'
      | none =>
        rw [hy] at h'
        rcases List.mem_cons.1 hx with rfl | hx
        · exact ⟨by omega, hy⟩
        · exact ih h' x hx
theorem sts_len_of (l : List Nd) (pad : List UInt8) (h : ∀ y ∈ l, (stT y pad).length + pad.length + 1 ≤ 400 * wtN y) : (stsT l pad).length ≤ 400 * wtL l := by
  induction l with
  | nil => simp [stsT]
  | cons y r ih =>
    have h1 := h y (by simp)
    have h2 := ih fun z hz => h z (by simp [hz])
    show (pad ++ stT y pad ++ [10] ++ stsT r pad).length ≤ 400 * (wtN y + wtL r)
    simp only [List.length_append, List.length_cons, List.length_nil]
    omega
/-- A statement's text, its pad and its line's end. -/
theorem st_len : ∀ (N : Nat) (x : Nd) (pad : List UInt8) (d : Nat), wtN x < N → stR x = true → d ≤ 64 → deepN x d = none → pad.length ≤ 2 * d → (stT x pad).length + pad.length + 1 ≤ 400 * wtN x
  | 0, _, _, _, h, _, _, _, _ => by omega
  | N + 1, x, pad, d, hN, hR, hd, hD, hp => by
    have blk : ∀ (b : List Nd) (r : Int), wtL b + 1 < wtN x → stsR b = true → (∃ k n l p, x = .mk k n l p ∧ Nd.mk 0 [] b r ∈ l) → ([32, 123, 10] ++ stsT b (pad ++ [32, 32]) ++ (pad ++ [125])).length ≤ 400 * wtL b + 132 := by
      intro b r hw hb hx
      obtain ⟨k, n, l, p, rfl, hm⟩ := hx
      rw [deepN_mk] at hD
      have h1 := deepL_none hD _ hm
      rw [deepN_mk] at h1
      have h2 := sts_len_of b (pad ++ [32, 32]) fun y hy => by
        have h3 := deepL_none h1.2 y hy
        refine st_len N y (pad ++ [32, 32]) (d + 1 + 1) (by have := wtL_mem hy; omega) (stsR_mem hb y hy) h3.1 h3.2 ?_
        simp
        omega
      simp only [List.length_append, List.length_cons, List.length_nil]
      omega
    have hpw : pad.length ≤ 128 := by omega
    have E := fun (y : Nd) (h : exR y = true) => ex_len (wtN y + 1) y 0 (Nat.lt_succ_self _) h
    cases stC_of hR with
    | set s y p h1 h2 =>
      have e1 := E y h2
      have : stT (.mk 1 s [y] p) pad = s ++ [32, 61, 32] ++ exT y 0 ++ [59] := by simp [stT, ex0At, ex0s]
      rw [this, wtN_mk]
      simp only [List.length_append, List.length_cons, List.length_nil, wtL]
      omega
    | module s l q b r p h1 h2 h3 =>
      have e1 := row_len l fun y hy => (parsR_mem h2 y hy).2
      have k1 : wtN (.mk 4 [] l q) = wtL l + 0 + 1 := wtN_mk _ _ _ _
      have k2 : wtN (.mk 0 [] b r) = wtL b + 0 + 1 := wtN_mk _ _ _ _
      have e2 := blk b r (by rw [wtN_mk]; simp only [wtL, k1, k2]; omega) h3 ⟨_, _, _, _, rfl, by simp⟩
      have : stT (.mk 2 s [.mk 4 [] l q, .mk 0 [] b r] p) pad = (wModule ++ [32] ++ s ++ [40]) ++ joinC (ex0s l) ++ [41] ++ ([32, 123, 10] ++ stsT b (pad ++ [32, 32]) ++ (pad ++ [125])) := by simp [stT, rowT, grT, blksT]
      rw [this, wtN_mk]
      simp only [wModule, List.length_append, List.length_cons, List.length_nil, wtL, k1, k2] at e2 ⊢
      omega
    | function s l q y p h1 h2 h3 =>
      have e1 := row_len l fun y hy => (parsR_mem h2 y hy).2
      have e2 := E y h3
      have k1 : wtN (.mk 4 [] l q) = wtL l + 0 + 1 := wtN_mk _ _ _ _
      have : stT (.mk 3 s [.mk 4 [] l q, y] p) pad = (wFunction ++ [32] ++ s ++ [40]) ++ joinC (ex0s l) ++ [41, 32, 61, 32] ++ exT y 0 ++ [59] := by simp [stT, rowT, grT, ex0At, ex0s]
      rw [this, wtN_mk]
      simp only [wFunction, List.length_append, List.length_cons, List.length_nil, wtL, k1]
      omega
    | loop s y b r p h1 h2 h3 =>
      obtain ⟨ky, ny, my, py⟩ := y
      have e1 := E (.mk ky ny my py) h2
      have k2 : wtN (.mk 0 [] b r) = wtL b + 0 + 1 := wtN_mk _ _ _ _
      have e2 := blk b r (by rw [wtN_mk]; simp only [wtL, k2]; omega) h3 ⟨_, _, _, _, rfl, by simp⟩
      have : stT (.mk 5 s [.mk ky ny my py, .mk 0 [] b r] p) pad = (wFor ++ [32, 40] ++ s ++ [32, 61, 32]) ++ exT (.mk ky ny my py) 0 ++ [41] ++ ([32, 123, 10] ++ stsT b (pad ++ [32, 32]) ++ (pad ++ [125])) := by simp [stT, ex0At, ex0s, blksT]
      rw [this, wtN_mk]
      simp only [wFor, List.length_append, List.length_cons, List.length_nil, wtL, k2] at e2 ⊢
      omega
    | cond y b r p h2 h3 =>
      obtain ⟨ky, ny, my, py⟩ := y
      have e1 := E (.mk ky ny my py) h2
      have k2 : wtN (.mk 0 [] b r) = wtL b + 0 + 1 := wtN_mk _ _ _ _
      have e2 := blk b r (by rw [wtN_mk]; simp only [wtL, k2]; omega) h3 ⟨_, _, _, _, rfl, by simp⟩
      have : stT (.mk 6 [] [.mk ky ny my py, .mk 0 [] b r] p) pad = (wIf ++ [32, 40]) ++ exT (.mk ky ny my py) 0 ++ [41] ++ ([32, 123, 10] ++ stsT b (pad ++ [32, 32]) ++ (pad ++ [125])) := by simp [stT, ex0At, ex0s, blksT]
      rw [this, wtN_mk]
      simp only [wIf, List.length_append, List.length_cons, List.length_nil, wtL, k2] at e2 ⊢
      omega
    | cond2 y b r b' r' p h2 h3 h4 =>
      obtain ⟨ky, ny, my, py⟩ := y
      have e1 := E (.mk ky ny my py) h2
      have k2 : wtN (.mk 0 [] b r) = wtL b + 0 + 1 := wtN_mk _ _ _ _
      have k3 : wtN (.mk 0 [] b' r') = wtL b' + 0 + 1 := wtN_mk _ _ _ _
      have e2 := blk b r (by rw [wtN_mk]; simp only [wtL, k2, k3]; omega) h3 ⟨_, _, _, _, rfl, by simp⟩
      have e3 := blk b' r' (by rw [wtN_mk]; simp only [wtL, k2, k3]; omega) h4 ⟨_, _, _, _, rfl, by simp⟩
      have : stT (.mk 6 [] [.mk ky ny my py, .mk 0 [] b r, .mk 0 [] b' r'] p) pad = (wIf ++ [32, 40]) ++ exT (.mk ky ny my py) 0 ++ [41] ++ ([32, 123, 10] ++ stsT b (pad ++ [32, 32]) ++ (pad ++ [125])) ++ ([32] ++ wElse ++ ([32, 123, 10] ++ stsT b' (pad ++ [32, 32]) ++ (pad ++ [125]))) := by simp [stT, ex0At, ex0s, blksT]
      rw [this, wtN_mk]
      simp only [wIf, wElse, List.length_append, List.length_cons, List.length_nil, wtL, k2, k3] at e2 e3 ⊢
      omega
    | call s l q p h1 h2 =>
      have e1 := row_len l fun y hy => exsR_mem h2 y hy
      have k1 : wtN (.mk 8 [] l q) = wtL l + 0 + 1 := wtN_mk _ _ _ _
      have : stT (.mk 7 s [.mk 8 [] l q] p) pad = (s ++ [40]) ++ joinC (ex0s l) ++ [41] ++ [59] := by simp [stT, rowT, grT]
      rw [this, wtN_mk]
      simp only [List.length_append, List.length_cons, List.length_nil, wtL, k1]
      omega
    | callB s l q b r p h1 h2 h3 =>
      have e1 := row_len l fun y hy => exsR_mem h2 y hy
      have k1 : wtN (.mk 8 [] l q) = wtL l + 0 + 1 := wtN_mk _ _ _ _
      have k2 : wtN (.mk 0 [] b r) = wtL b + 0 + 1 := wtN_mk _ _ _ _
      have e2 := blk b r (by rw [wtN_mk]; simp only [wtL, k1, k2]; omega) h3 ⟨_, _, _, _, rfl, by simp⟩
      have : stT (.mk 7 s [.mk 8 [] l q, .mk 0 [] b r] p) pad = (s ++ [40]) ++ joinC (ex0s l) ++ [41] ++ ([32, 123, 10] ++ stsT b (pad ++ [32, 32]) ++ (pad ++ [125])) := by simp [stT, rowT, grT, blksT]
      rw [this, wtN_mk]
      simp only [List.length_append, List.length_cons, List.length_nil, wtL, k1, k2] at e2 ⊢
      omega
/-- A right tree's text. -/
theorem text_len (l : List Nd) (h : checkR l = 0) : (stsT l []).length ≤ 400 * wtL l := by
  unfold checkR at h
  split at h
  · cases h
  · rename_i hd
    have hs : stsR l = true := by
      cases hs : stsR l
      · rw [hs] at h
        cases h
      · rfl
    exact sts_len_of l [] fun y hy => st_len (wtN y + 1) y [] 1 (Nat.lt_succ_self _) (stsR_mem hs y hy) (by omega) (deepL_none hd y hy).2 (by simp)
end Go.Proofs.YtpbkeamjdolpgaaGreatDoor
namespace Go.Proofs.YtpbkeamjdolpgaaGreatDoor
open Go.RowKit Go.Lib Go.Shelf Go.Sort

def wkA : List UInt8 := [97, 61, 49, 43, 50, 42, 98, 59]
def wkT : List Nd := [.mk 1 [97] [.mk 12 [43] [.mk 9 [49] [] 2, .mk 12 [42] [.mk 9 [50] [] 4, .mk 10 [98] [] 6] 5] 3] 0]
theorem wk_parse : parseR wkA = .ok wkT := by kernel_rfl
theorem wk_bad : parseR [98, 111, 120, 40] = .error (270, 4, []) := by kernel_rfl
theorem wk_print : printR wkT = ([97, 32, 61, 32, 49, 32, 43, 32, 50, 32, 42, 32, 98, 59, 10], 0) := by kernel_rfl
theorem wk_check : checkR [.mk 99 [] [] 0] = 290 := by kernel_rfl
theorem wk_text : fltT (270, 4, []) = [52, 58, 32, 101, 114, 114, 111, 114, 32, 50, 55, 48, 58, 32] := by kernel_rfl
theorem wk_wt : wtL wkT < 100 := of_decide_eq_true (by kernel_rfl)
theorem wk_len : (stsT wkT []).length ≤ 100 := of_decide_eq_true (by kernel_rfl)
theorem wk_i1 : (Lib.itoa ((270 : Nat) : Int)).length ≤ 1000 := of_decide_eq_true (by kernel_rfl)
theorem wk_i2 : (Lib.itoa 4).length ≤ 1000 := of_decide_eq_true (by kernel_rfl)
/-- The cells that works looks at. -/
def WkC (w : World) (y : Option Addr) : Prop := ∃ b0 o0 b1 o1 b2 o2 c1 c2, y = some ⟨b0, o0, none⟩ ∧ w.cell? ⟨b0, o0, none⟩ = some (.int .i64 1) ∧ w.cell? ⟨b0, o0 + 2, none⟩ = some (.slice (some ⟨b1, o1, none⟩) 1 c1) ∧
  w.cell? ⟨b1, o1 + 1, none⟩ = some (.string ⟨#[43]⟩) ∧ w.cell? ⟨b1, o1 + 2, none⟩ = some (.slice (some ⟨b2, o2, none⟩) 2 c2) ∧ w.cell? ⟨b2, o2 + 5, none⟩ = some (.string ⟨#[42]⟩)
theorem wkC_of {w : World} {ok : Nat → Prop} {y : Option Addr} (h : NdRow w ok wkT y) : WkC w y := by
  obtain ⟨b0, o0, rfl, ⟨_, h1, _, _, y1, c1, h2, h3⟩, _⟩ := h
  obtain ⟨b1, o1, rfl, ⟨_, _, h4, _, y2, c2, h5, h6⟩, _⟩ := h3
  obtain ⟨b2, o2, rfl, _, h7⟩ := h6
  obtain ⟨b3, o3, h8, ⟨_, _, h9, _⟩, _⟩ := h7
  cases h8
  exact ⟨b0, o0, b1, o1, b2, o2, c1, c2, rfl, h1, h2, h4, h5, h9⟩
theorem WkC.below {w w' : World} {y : Option Addr} (h : WkC w y) (hb : Below w.heap.size w w') : WkC w' y := by
  obtain ⟨b0, o0, b1, o1, b2, o2, c1, c2, h0, h1, h2, h3, h4, h5⟩ := h
  have k : ∀ {p : Addr} {v : Value}, w.cell? p = some v → w'.cell? p = some v := fun {p v} hc => (hb.cell (World.block_lt_of_cell? w p hc)).trans hc
  exact ⟨b0, o0, b1, o1, b2, o2, c1, c2, h0, k h1, k h2, k h3, k h4, k h5⟩
set_option maxHeartbeats 4000000 in
set_option maxRecDepth 100000 in
theorem works_any (w : World) (hG : GlT w) : Calls Tryz.prog 17 #[] w fun e w' => e = .returned (.bool true) ∧ Below w.heap.size w w' := by
  have c0 := parse_any ⟨#[97, 61, 49, 43, 50, 42, 98, 59]⟩ w hG.1
  rw [show (⟨#[97, 61, 49, 43, 50, 42, 98, 59]⟩ : ByteArray).data.toList = wkA from rfl, wk_parse] at c0
  have HG := Lib.hid hG
  clear hG
  go_enter Tryz.func17, Tryz.ntmps17
  go_wp2_with fail
  refine c0.mono ?_
  clear c0
  rintro e w1 ⟨hb1, y, c, rfl, hrow, -⟩
  have c1 := print_any _ wkT (by have := wk_wt; omega) (fun _ => by have := wk_len; omega) y c w1 (HG.out.1.below hb1) hrow
  rw [wk_print] at c1
  have HC := Lib.hid (wkC_of hrow)
  have HB1 := Lib.hid hb1
  clear hrow hb1
  rw [show wkT.length = 1 from rfl] at c1 ⊢
  go_wp2_with fail
  refine c1.mono ?_
  clear c1
  rintro e w2 ⟨hb2, rfl⟩
  have HB2 := Lib.hid (tr HB1.out hb2)
  have HC2 := Lib.hid (HC.out.below hb2)
  have c2 := parse_any ⟨#[98, 111, 120, 40]⟩ w2 (HG.out.1.below HB2.out)
  rw [show (⟨#[98, 111, 120, 40]⟩ : ByteArray).data.toList = [98, 111, 120, 40] from rfl, wk_bad] at c2
  clear hb2 HC
  go_wp2_with fail
  refine c2.mono ?_
  clear c2
  rintro e w3 ⟨hb3, bf, hbf, rfl, hf⟩
  have HB3 := Lib.hid (tr HB2.out hb3)
  have HC3 := Lib.hid (HC2.out.below hb3)
  have c3 := text_any 270 4 [] (by decide) (by decide) (by decide) (by decide) wk_i1 wk_i2 (by decide) bf w3 (HG.out.below HB3.out) hf
  rw [wk_text] at c3
  clear hb3 hbf hf HC2
  go_wp2_with fail
  refine c3.mono ?_
  clear c3
  rintro e w4 ⟨rfl, hb4⟩
  have HB4 := Lib.hid (tr HB3.out hb4)
  obtain ⟨b0, o0, b1, o1, b2, o2, c1, c2, rfl, h1, h2, h3, h4, h5⟩ := HC3.out.below hb4
  have hA : Below w4.heap.size w4 (w4.alloc (.cells #[.int .i64 99, .string ⟨#[]⟩, .slice none 0 0, .int .i64 0] 53)) := (Below.refl _ _).alloc (Nat.le_refl _) _
  have hbx := (Box4.new w4 (.int .i64 99) (.string ⟨#[]⟩) (.slice none 0 0) (.int .i64 0)).facts
  have c4 := check_any (fun _ => True) [.mk 99 [] [] 0] (by simp [wtL, wtN_mk]) (some ⟨w4.heap.size, 0, none⟩) 1 _ ((HG.out.1.below HB4.out).below hA) ⟨_, _, rfl, ⟨⟨trivial, hbx.2.2.2.2, rfl⟩, hbx.1, hbx.2.1, hbx.2.2.2.1, none, ⟨0, Nat.le_refl _⟩, hbx.2.2.1, trivial⟩, trivial⟩
  rw [wk_check] at c4
  have HB5 := Lib.hid (tr HB4.out hA)
  clear hb4 hA hbx HC3
  go_wp2_with fail
  refine c4.mono ?_
  clear c4
  rintro e w5 ⟨rfl, hb5⟩
  go_wp2_with fail
  go_ret
  exact ⟨rfl, tr HB5.out hb5⟩
end Go.Proofs.YtpbkeamjdolpgaaGreatDoor
namespace Go.Proofs.YtpbkeamjdolpgaaGreatDoor
open Go.RowKit Go.Lib Go.Shelf Go.Sort

mutual
/-- The count, till it is too great. -/
def wlkN : Nd → Nat → Nat → Bool × Nat
  | .mk _ nm kids _, d, n => if 3000 < n + 1 + nm.length / 16 ∨ 200 < d then (true, n + 1 + nm.length / 16) else wlkL kids (d + 1) (n + 1 + nm.length / 16)
def wlkL : List Nd → Nat → Nat → Bool × Nat
  | [], _, n => (false, n)
  | x :: r, d, n => if (wlkN x d n).1 then (true, (wlkN x d n).2) else wlkL r d (wlkN x d n).2
end
theorem wlkN_mk (k : Int) (nm : List UInt8) (l : List Nd) (p : Int) (d n : Nat) : wlkN (.mk k nm l p) d n = if 3000 < n + 1 + nm.length / 16 ∨ 200 < d then (true, n + 1 + nm.length / 16) else wlkL l (d + 1) (n + 1 + nm.length / 16) := by rw [wlkN]
theorem wlkL_cons (x : Nd) (r : List Nd) (d n : Nat) : wlkL (x :: r) d n = if (wlkN x d n).1 then (true, (wlkN x d n).2) else wlkL r d (wlkN x d n).2 := by rw [wlkL]
/-- Where it is not too great the tree is light. -/
theorem wlk_wt : ∀ (N : Nat) (l : List Nd) (d n : Nat), szL l < N → n ≤ 3000 → (wlkL l d n).1 = false → (wlkL l d n).2 ≤ 3000 ∧ wtL l + 16 * n ≤ 16 * (wlkL l d n).2
  | 0, _, _, _, h, _, _ => by omega
  | N + 1, [], d, n, _, hn, _ => by
    show n ≤ 3000 ∧ 0 + 16 * n ≤ 16 * n
    omega
  | N + 1, .mk k nm kids p :: r, d, n, hN, hn, h => by
    have hs : szL (.mk k nm kids p :: r) = szN (.mk k nm kids p) + szL r := by rw [szL]
    rw [szN_mk] at hs
    rw [wlkL_cons] at h ⊢
    have hm := wlkN_mk k nm kids p d n
    by_cases h1 : 3000 < n + 1 + nm.length / 16 ∨ 200 < d
    · rw [if_pos h1] at hm
      rw [hm] at h
      cases h
    · rw [if_neg h1] at hm
      rw [hm] at h ⊢
      cases h2 : (wlkL kids (d + 1) (n + 1 + nm.length / 16)).1
      · rw [h2] at h
        have a := wlk_wt N kids (d + 1) (n + 1 + nm.length / 16) (by omega) (by omega) h2
        have b := wlk_wt N r d (wlkL kids (d + 1) (n + 1 + nm.length / 16)).2 (by omega) a.1 h
        refine ⟨b.1, ?_⟩
        have e : wtL (.mk k nm kids p :: r) = wtN (.mk k nm kids p) + wtL r := rfl
        rw [wtN_mk] at e
        simp only [Bool.false_eq_true, if_false]
        omega
      · rw [h2] at h
        cases h
theorem wlk_drop {l : List Nd} {i : Nat} {x : Nd} (h : l[i]? = some x) (d n : Nat) : wlkL (l.drop i) d n = if (wlkN x d n).1 then (true, (wlkN x d n).2) else wlkL (l.drop (i + 1)) d (wlkN x d n).2 := by
  obtain ⟨hi, e⟩ := List.getElem?_eq_some_iff.1 h
  rw [List.drop_eq_getElem_cons hi, e, wlkL_cons]
/-- The closure's two variables. -/
def WkV (bn : Nat) (n : Nat) (w : World) : Prop := w.heap[bn]? = some (.cells #[.int .i64 n] 3 (0, 0)) ∧ w.heap[bn + 1]? = some (.cells #[.func (.func 49) #[] #[.pointer (some ⟨bn, 0, none⟩), .pointer (some ⟨bn + 1, 0, none⟩)]] 77 (0, 0))
def WkEnd (bn : Nat) (R : Bool × Nat) (w : World) (e : Ending) (w' : World) : Prop := e = .returned (.bool R.1) ∧ WkV bn R.2 w' ∧ Ow bn w w'
mutual
/-- Names and rows are of lengths that an int holds. -/
def OkN : Nd → Prop
  | .mk _ nm kids _ => nm.length < 2 ^ 62 ∧ kids.length < 2 ^ 62 ∧ OkL kids
def OkL : List Nd → Prop
  | [] => True
  | x :: r => OkN x ∧ OkL r
end
theorem OkL.at_ : ∀ {l : List Nd} {i : Nat} {x : Nd}, OkL l → l[i]? = some x → OkN x
  | _ :: _, 0, x, h, hi => by
    simp at hi
    subst hi
    exact h.1
  | _ :: r, i + 1, x, h, hi => OkL.at_ (l := r) (i := i) h.2 (by simpa using hi)
set_option maxHeartbeats 4000000 in
set_option maxRecDepth 100000 in
theorem wlk_any (bn : Nat) : ∀ (N : Nat) (l : List Nd), szL l < N → OkL l → l.length < 2 ^ 62 → ∀ (d n : Nat), d ≤ 201 → n ≤ 3000 → ∀ (y : Option Addr) (c : Nat) (w : World), WkV bn n w → NdRow w (fun k => k ≠ bn) l y →
    Calls Tryz.prog 49 #[.slice y l.length c, .int .i64 d, .pointer (some ⟨bn, 0, none⟩), .pointer (some ⟨bn + 1, 0, none⟩)] w (WkEnd bn (wlkL l d n) w)
  | 0, l, hN, _, _, _, _, _, _, _, _, _, _, _ => by omega
  | N + 1, l, hN, hok, hll, d, n, hd, hn, y, c, w, hV, hrow => by
    have ih := wlk_any bn N
    have e1 := enters_of Tryz.func49 (by kernel_rfl) rfl
    obtain ⟨R, hR⟩ : ∃ R, wlkL l d n = R := ⟨_, rfl⟩
    rw [hR]
    obtain ⟨m, hm⟩ : ∃ m, l.length = m := ⟨_, rfl⟩
    have HN := Lib.hid hm
    have HR := Lib.hid hR
    have HROW := Lib.hid hrow
    have HOK := Lib.hid hok
    have HSZ := Lib.hid hN
    have HIH := Lib.hid ih
    have HV := Lib.hid hV
    have Hn := Lib.hid hn
    rw [hm] at hll ⊢
    have Qd1 : IntKind.i64.wrap ((d : Int) + 1) = (d : Int) + 1 := IntWalk.i64_in _ (by omega)
    clear hN hok hrow hR hm ih hV hn
    go_enter Tryz.func49, Tryz.ntmps49
    go_wp2_with fail
    go_loopg [10] m (fun g v wx => ∃ (i n' : Nat), v = .int .i64 i ∧ i + g = m ∧ Hid (n' ≤ 3000 ∧ WkV bn n' wx ∧ Ow bn w wx ∧ wlkL (l.drop i) d n' = R))
    case atStart => exact ⟨0, n, rfl, by omega, Hn.out, HV.out, Ow.refl _ _, HR.out⟩
    case round =>
      obtain ⟨i, n', rfl, hi, hS⟩ := hrel
      by_cases hlt : i < m
      · obtain ⟨x, hx⟩ : ∃ x, l[i]? = some x := ⟨l[i]'(by have := HN.out; omega), List.getElem?_eq_getElem _⟩
        obtain ⟨hn', hV, ho, hS2⟩ := hS.out
        rw [wlk_drop hx] at hS2
        obtain ⟨B, o, rfl, hat⟩ := (HROW.out.ow ho fun k hk => hk).at_ hx
        have hox := HOK.out.at_ hx
        obtain ⟨k, nm, kids, p⟩ := x
        rw [wlkN_mk] at hS2
        obtain ⟨hok, x0, x1, x3, y', c', x2, hk⟩ := hat
        have c1 := HIH.out kids (by have := kids_lt hx; have := HSZ.out; omega) hox.2.2 hox.2.1 (d + 1)
        have v0 : wr.cell? ⟨bn, 0, none⟩ = some (.int .i64 n') := cell_of_one hV.1
        have f0 : wr.frozen? ⟨bn, 0, none⟩ = false := free_of_one hV.1
        have hlt' : (i : Int) < (m : Int) := by omega
        have Qi1 : IntKind.i64.wrap ((i : Int) + 1) = (i : Int) + 1 := IntWalk.i64_in _ (by omega)
        obtain ⟨q, hq⟩ : ∃ q, nm.length / 16 = q := ⟨_, rfl⟩
        have hql : q ≤ nm.length := by rw [← hq]; exact Nat.div_le_self _ _
        have hnl := hox.1
        have Qq : Int.tdiv (nm.length : Int) 16 = (q : Int) := by rw [← hq]; exact (Int.ofNat_tdiv nm.length 16).symm
        have Q1 : IntKind.i64.wrap (1 + (q : Int)) = 1 + (q : Int) := IntWalk.i64_in _ (by omega)
        have Q0 : IntKind.i64.wrap (q : Int) = (q : Int) := IntWalk.i64_in _ (by omega)
        obtain ⟨N1, hN1⟩ : ∃ N1, n' + 1 + q = N1 := ⟨_, rfl⟩
        have Q2 : IntKind.i64.wrap ((n' : Int) + (1 + (q : Int))) = (N1 : Int) := (IntWalk.i64_in _ (by omega)).trans (by omega)
        rw [hq, hN1] at hS2
        have HN1 := Lib.hid hN1
        have HK := Lib.hid hk
        have HBN := Lib.hid hok.ok
        have HS := Lib.hid hS2
        have HVV := Lib.hid hV
        have HO := Lib.hid ho
        clear hS hS2 hx hok hox hq hV ho hN1 hk
        go_wp2_with fail
        go_still_tail 10, (by kernel_rfl)
        change wpList _ _ _ _ _ (World.drew wr)
        have v1 : (World.drew wr).cell? ⟨bn, 0, none⟩ = some (.int .i64 n') := v0
        have f1 : (World.drew wr).frozen? ⟨bn, 0, none⟩ = false := f0
        have HVd : Hid (WkV bn n' (World.drew wr)) := HVV.out
        have HOd : Hid (Ow bn wr (World.drew wr)) := (Ow.refl bn wr).drew
        generalize World.drew wr = wd at *
        go_wp2_with fail
        have HV3 : Hid (WkV bn N1 (wd.setCell ⟨bn, 0, none⟩ (.int .i64 N1))) := ⟨one_setCell HVd.out.1, (Below.heap_setCell _ _ _ _ (show bn + 1 ≠ bn by omega)).trans HVd.out.2⟩
        have HO3 : Hid (Ow bn wr (wd.setCell ⟨bn, 0, none⟩ (.int .i64 N1))) := HOd.out.setCell (.inl rfl) _
        have HK3 := Lib.hid (HK.out.ow HO3.out fun k hk => hk)
        have y2 := HO3.out.cell (p := ⟨B, o + i * 4 + 2, none⟩) HBN.out x2
        generalize wd.setCell ⟨bn, 0, none⟩ (.int .i64 N1) = w3 at *
        have n3 : w3.cell? ⟨bn, 0, none⟩ = some (.int .i64 N1) := cell_of_one HV3.out.1
        have g3 := cell_of_one HV3.out.2
        by_cases h3 : 3000 < N1
        · have P1 : decide ((3000 : Int) < (N1 : Int)) = true := decide_eq_true (by omega)
          have HS3 : Hid ((true, N1) = R) := by
            have := HS.out
            rw [if_pos (Or.inl h3)] at this
            exact this
          have HV4 : Hid (WkV bn N1 (World.drew w3)) := HV3.out
          have HO4 : Hid (Ow bn wr (World.drew w3)) := HO3.out.drew
          go_quiet (fail)
          go_wp2_with fail
          go_ret
          exact ⟨by rw [← HS3.out]; rfl, by rw [← HS3.out]; exact HV3.out, HO.out.trans (HO3.out.drewN _)⟩
        · have P1 : decide ((3000 : Int) < (N1 : Int)) = false := decide_eq_false (by omega)
          by_cases hd2 : 200 < d
          · have P3 : decide ((200 : Int) < (d : Int)) = true := decide_eq_true (by omega)
            have HS3 : Hid ((true, N1) = R) := by
              have := HS.out
              rw [if_pos (Or.inr hd2)] at this
              exact this
            have HV4 : Hid (WkV bn N1 (World.drew w3)) := HV3.out
            have HO4 : Hid (Ow bn wr (World.drew w3)) := HO3.out.drew
            go_quiet (fail)
            go_wp2_with fail
            go_ret
            exact ⟨by rw [← HS3.out]; rfl, by rw [← HS3.out]; exact HV3.out, HO.out.trans (HO3.out.drewN _)⟩
          · have P3 : decide ((200 : Int) < (d : Int)) = false := decide_eq_false (by omega)
            have HV4 : Hid (WkV bn N1 (World.drew w3)) := HV3.out
            have HO4 : Hid (Ow bn wr (World.drew w3)) := HO3.out.drew
            have c2 := c1 N1 (by omega) (by omega) y' c' (World.drew w3) HV4.out (HK3.out.ow (Ow.refl bn w3).drew fun k hk => hk)
            have HS3 : Hid ((if (wlkL kids (d + 1) N1).1 = true then (true, (wlkL kids (d + 1) N1).2) else wlkL (l.drop (i + 1)) d (wlkL kids (d + 1) N1).2) = R) := by
              have := HS.out
              rw [if_neg (show ¬ (3000 < N1 ∨ 200 < d) by omega)] at this
              exact this
            have HWT := Lib.hid (wlk_wt (szL kids + 1) kids (d + 1) N1 (Nat.lt_succ_self _) (by omega))
            obtain ⟨⟨rb, rn⟩, hrq⟩ : ∃ r, wlkL kids (d + 1) N1 = r := ⟨_, rfl⟩
            rw [hrq] at c2 HS3 HWT
            rw [show ((d + 1 : Nat) : Int) = (d : Int) + 1 from rfl] at c2
            clear c1 hrq
            go_still_tail 15, (by kernel_rfl)
            change wpList _ _ _ _ _ (World.drew w3)
            generalize World.drew w3 = w4 at *
            go_wp2_with fail
            refine c2.mono ?_
            clear c2
            rintro e w5 ⟨rfl, hv5, ho5⟩
            have HV5 := Lib.hid hv5
            have HO5 := Lib.hid ((HO.out.trans HO4.out).trans ho5)
            clear hv5 ho5
            cases rb
            · have HS4 : Hid (wlkL (l.drop (i + 1)) d rn = R) := HS3.out
              go_wp2_with fail
              go_roundg (gk - 1)
              case measure => omega
              case rel => exact ⟨i + 1, rn, rfl, by omega, (HWT.out (by trivial)).1, HV5.out, HO5.out, HS4.out⟩
            · have HS4 : Hid ((true, rn) = R) := HS3.out
              go_wp2_with fail
              go_ret
              exact ⟨by rw [← HS4.out]; rfl, by rw [← HS4.out]; exact HV5.out, HO5.out⟩
      · have hS2 := hS.out
        rw [List.drop_of_length_le (by have := HN.out; omega)] at hS2
        have hlt' : ¬ (i : Int) < (m : Int) := by omega
        have HS2 := Lib.hid hS2
        clear hS hS2
        go_wp2_with fail
        go_ret
        exact ⟨by rw [← HS2.out.2.2.2]; rfl, by rw [← HS2.out.2.2.2]; exact HS2.out.2.1, HS2.out.2.2.1⟩
set_option maxHeartbeats 4000000 in
set_option maxRecDepth 100000 in
/-- beyond: what is not beyond is light. -/
theorem beyond_any (ok : Nat → Prop) (l : List Nd) (hok : OkL l) (hll : l.length < 2 ^ 62) (y : Option Addr) (c : Nat) (w : World) (hrow : NdRow w ok l y) :
    Calls Tryz.prog 18 #[.slice y l.length c] w fun e w' => (∃ r, e = .returned (.bool r) ∧ (r = false → wtL l ≤ 48000)) ∧ Below w.heap.size w w' := by
  have hV : WkV w.heap.size 0 ((w.alloc (.cells #[.int .i64 0] 3)).alloc (.cells #[.func (.func 49) #[] #[.pointer (some ⟨w.heap.size, 0, none⟩), .pointer (some ⟨w.heap.size + 1, 0, none⟩)]] 77)) := by
    refine ⟨(Below.heap_alloc _ _ _ (by rw [World.size_alloc]; omega)).trans (heap_alloc_new w _), ?_⟩
    have := heap_alloc_new (w.alloc (.cells #[.int .i64 0] 3)) (.cells #[.func (.func 49) #[] #[.pointer (some ⟨w.heap.size, 0, none⟩), .pointer (some ⟨w.heap.size + 1, 0, none⟩)]] 77)
    rwa [World.size_alloc] at this
  have e1 := enters_of Tryz.func49 (by kernel_rfl) rfl
  have hb : ∀ o o', Below w.heap.size w ((w.alloc o).alloc o') := fun o o' => tr ((Below.refl _ _).alloc (Nat.le_refl _) _) ((Below.refl _ _).alloc (Nat.le_refl _) _)
  have c0 := wlk_any w.heap.size (szL l + 1) l (Nat.lt_succ_self _) hok hll 0 0 (by omega) (by omega) y c _ hV ((hrow.wide (ok' := fun k => k ≠ w.heap.size) fun k _ hk => by omega).below (hb _ _))
  have hw := wlk_wt (szL l + 1) l 0 0 (Nat.lt_succ_self _) (by omega)
  obtain ⟨⟨r, n⟩, hr⟩ : ∃ r, wlkL l 0 0 = r := ⟨_, rfl⟩
  rw [hr] at c0 hw
  obtain ⟨W, hW⟩ : ∃ W, wtL l = W := ⟨_, rfl⟩
  obtain ⟨m, hm⟩ : ∃ m, l.length = m := ⟨_, rfl⟩
  rw [hW] at hw ⊢
  rw [hm] at c0 ⊢
  have HW : Hid (r = false → W ≤ 48000) := fun h => by
    have := hw h
    simp only at this
    omega
  have HB := Lib.hid (hb (.cells #[.int .i64 0] 3) (.cells #[.func (.func 49) #[] #[.pointer (some ⟨w.heap.size, 0, none⟩), .pointer (some ⟨w.heap.size + 1, 0, none⟩)]] 77))
  clear hw hr hW hm hb hrow hok hll hV
  go_enter Tryz.func18, Tryz.ntmps18
  go_wp2_with fail
  refine c0.mono ?_
  clear c0
  rintro e w2 ⟨rfl, _, ho⟩
  have HO := Lib.hid (HB.out.trans (ho.toBelow (Nat.le_refl _) HB.out.size))
  clear ho
  go_wp2_with fail
  go_ret
  exact ⟨⟨r, rfl, HW.out⟩, HO.out⟩
end Go.Proofs.YtpbkeamjdolpgaaGreatDoor
namespace Go.Proofs.YtpbkeamjdolpgaaGreatDoor

theorem sameL_snoc : ∀ {a a' : List Nd} {x x' : Nd}, sameL a a' = true → sameN x x' = true → sameL (a ++ [x]) (a' ++ [x']) = true
  | [], [], x, x', _, h => by
    show (sameN x x' && sameL [] []) = true
    rw [h]
    rfl
  | [], _ :: _, _, _, h, _ => by cases h
  | _ :: _, [], _, _, h, _ => by cases h
  | y :: r, y' :: r', x, x', h, hx => by
    have h' : (sameN y y' && sameL r r') = true := h
    rw [Bool.and_eq_true] at h'
    show (sameN y y' && sameL (r ++ [x]) (r' ++ [x'])) = true
    rw [h'.1, sameL_snoc h'.2 hx]
    rfl
theorem sameL_app : ∀ {a a' b b' : List Nd}, sameL a a' = true → sameL b b' = true → sameL (a ++ b) (a' ++ b') = true
  | [], [], _, _, _, h => h
  | [], _ :: _, _, _, h, _ => by cases h
  | _ :: _, [], _, _, h, _ => by cases h
  | y :: r, y' :: r', _, _, h, hx => by
    have h' : (sameN y y' && sameL r r') = true := h
    rw [Bool.and_eq_true] at h'
    show (sameN y y' && _) = true
    rw [h'.1]
    exact sameL_app h'.2 hx
theorem sameN_mk {k : Int} {n : List UInt8} {l l' : List Nd} {p p' : Int} (h : sameL l l' = true) : sameN (.mk k n l p) (.mk k n l' p') = true := by
  show (decide (k = k) && decide (n = n) && sameL l l') = true
  simp [h]
theorem sameL_one {x x' : Nd} (h : sameN x x' = true) : sameL [x] [x'] = true := sameL_snoc (a := []) (a' := []) rfl h
theorem sameL_two {x x' y y' : Nd} (h : sameN x x' = true) (k : sameN y y' = true) : sameL [x, y] [x', y'] = true := sameL_snoc (sameL_one h) k
theorem sameL_three {x x' y y' z z' : Nd} (h : sameN x x' = true) (k : sameN y y' = true) (m : sameN z z' = true) : sameL [x, y, z] [x', y', z'] = true := sameL_snoc (sameL_two h k) m
mutual
theorem sameN_refl : ∀ x : Nd, sameN x x = true
  | .mk _ _ l _ => sameN_mk (sameL_refl l)
theorem sameL_refl : ∀ l : List Nd, sameL l l = true
  | [] => rfl
  | x :: r => by
    show (sameN x x && sameL r r) = true
    rw [sameN_refl x, sameL_refl r]
    rfl
end
mutual
theorem sameN_symm : ∀ {x y : Nd}, sameN x y = true → sameN y x = true
  | .mk k n l p, .mk k' n' l' p', h => by
    have h' : (decide (k = k') && decide (n = n') && sameL l l') = true := h
    simp only [Bool.and_eq_true, decide_eq_true_eq] at h'
    obtain ⟨⟨rfl, rfl⟩, h3⟩ := h'
    exact sameN_mk (sameL_symm h3)
theorem sameL_symm : ∀ {l m : List Nd}, sameL l m = true → sameL m l = true
  | [], [], _ => rfl
  | [], _ :: _, h => by cases h
  | _ :: _, [], h => by cases h
  | x :: r, y :: r', h => by
    have h' : (sameN x y && sameL r r') = true := h
    rw [Bool.and_eq_true] at h'
    show (sameN y x && sameL r' r) = true
    rw [sameN_symm h'.1, sameL_symm h'.2]
    rfl
end
mutual
theorem sameN_trans : ∀ {x y z : Nd}, sameN x y = true → sameN y z = true → sameN x z = true
  | .mk k n l p, .mk k' n' l' p', .mk k2 n2 l2 p2, h, g => by
    have h' : (decide (k = k') && decide (n = n') && sameL l l') = true := h
    have g' : (decide (k' = k2) && decide (n' = n2) && sameL l' l2) = true := g
    simp only [Bool.and_eq_true, decide_eq_true_eq] at h' g'
    obtain ⟨⟨rfl, rfl⟩, h3⟩ := h'
    obtain ⟨⟨rfl, rfl⟩, g3⟩ := g'
    exact sameN_mk (sameL_trans h3 g3)
theorem sameL_trans : ∀ {l m k : List Nd}, sameL l m = true → sameL m k = true → sameL l k = true
  | [], [], k, _, h => h
  | [], _ :: _, _, h, _ => by cases h
  | _ :: _, [], _, h, _ => by cases h
  | x :: r, y :: r', [], _, h => by cases h
  | x :: r, y :: r', z :: r2, h, g => by
    have h' : (sameN x y && sameL r r') = true := h
    have g' : (sameN y z && sameL r' r2) = true := g
    rw [Bool.and_eq_true] at h' g'
    show (sameN x z && sameL r r2) = true
    rw [sameN_trans h'.1 g'.1, sameL_trans h'.2 g'.2]
    rfl
end
theorem sameL_len : ∀ {l m : List Nd}, sameL l m = true → l.length = m.length
  | [], [], _ => rfl
  | [], _ :: _, h => by cases h
  | _ :: _, [], h => by cases h
  | x :: r, y :: r', h => by
    have h' : (sameN x y && sameL r r') = true := h
    rw [Bool.and_eq_true] at h'
    rw [List.length_cons, List.length_cons, sameL_len h'.2]

def starts : List (List UInt8) := [wModule, wFunction, wFor, wIf]
/-- From token n on ts goes as us does; behind us's end nothing stands that could go on with what is half said. -/
structure Goes (us ts : List Tk) (n : Nat) : Prop where
  at_ : ∀ p, p < us.length → kindT ts (n + p) = kindT us p ∧ textT ts (n + p) = textT us p
  end_ : ∀ s, s ∉ starts → isT ts (n + us.length) s = false
  num : kindT ts (n + us.length) ≠ 1

/-- What the first one takes, the second one takes, n tokens behind. -/
def Okk {A : Type} (m n : Nat) (S : A → A → Prop) (R R' : Res A) : Prop := ∀ a q, R = .ok a q → q ≤ m ∧ ∃ a', R' = .ok a' (n + q) ∧ S a a'
theorem Okk.bind {A B : Type} {m n : Nat} {S : A → A → Prop} {T : B → B → Prop} {R R' : Res A} {f f' : A → Nat → Res B} (h : Okk m n S R R') (k : ∀ a a' q, S a a' → q ≤ m → Okk m n T (f a q) (f' a' (n + q))) : Okk m n T (R.bind f) (R'.bind f') := by
  intro b q hq
  cases R with
  | out => cases hq
  | bad p => cases hq
  | ok a p =>
    obtain ⟨hp, a', ha, hs⟩ := h a p rfl
    rw [ha]
    exact k a a' p hs hp b q hq
theorem Okk.ok {A : Type} {m n : Nat} {S : A → A → Prop} {a a' : A} {q : Nat} (hq : q ≤ m) (h : S a a') : Okk m n S (.ok a q) (.ok a' (n + q)) := by
  intro b p hp
  cases hp
  exact ⟨hq, a', rfl, h⟩
theorem Okk.bad {A : Type} {m n : Nat} {S : A → A → Prop} {R' : Res A} {q : Nat} : Okk m n S (.bad q) R' := fun _ _ h => by cases h
theorem Okk.out {A : Type} {m n : Nat} {S : A → A → Prop} {R' : Res A} : Okk m n S .out R' := fun _ _ h => by cases h

def SN (x y : Nd) : Prop := sameN x y = true
def SL (x y : List Nd) : Prop := sameL x y = true

section
variable {us ts : List Tk} {L L' n : Nat}
theorem Goes.is_lt (h : Goes us ts n) {p : Nat} (hp : p < us.length) (s : List UInt8) : isT ts (n + p) s = isT us p s := by
  unfold isT
  rw [(h.at_ p hp).1, (h.at_ p hp).2]
theorem Goes.is_ (h : Goes us ts n) {p : Nat} (hp : p ≤ us.length) {s : List UInt8} (hs : s ∉ starts) : isT ts (n + p) s = isT us p s := by
  by_cases hlt : p < us.length
  · exact h.is_lt hlt s
  · obtain rfl : p = us.length := by omega
    rw [h.end_ s hs]
    cases hB : isT us us.length s
    · rfl
    · exact absurd (isT_lt hB) (Nat.lt_irrefl _)
theorem ok_take (h : Goes us ts n) {s : List UInt8} (hs : s ∉ starts) {p : Nat} (hp : p ≤ us.length) : Okk us.length n (fun _ _ => True) (takeP us L s p) (takeP ts L' s (n + p)) := by
  unfold takeP
  rw [h.is_ hp hs]
  split
  · rename_i hB
    exact Okk.ok (q := p + 1) (isT_lt hB) trivial
  · exact Okk.bad
theorem ok_name (h : Goes us ts n) {p : Nat} : Okk us.length n (fun a b => a = b) (nameP us p) (nameP ts (n + p)) := by
  unfold nameP
  split
  · rename_i hB
    have hlt := namedT_lt hB
    have hN : namedT ts (n + p) = true := by
      unfold namedT at hB ⊢
      rw [(h.at_ p hlt).1, (h.at_ p hlt).2]
      exact hB
    rw [if_pos hN]
    exact Okk.ok (q := p + 1) hlt (h.at_ p hlt).2.symm
  · exact Okk.bad
theorem ok_nameN (h : Goes us ts n) {p : Nat} : Okk us.length n SN (nameN us L p) (nameN ts L' (n + p)) :=
  (ok_name h).bind fun a a' q ha hq => by
    subst ha
    exact Okk.ok hq (sameN_mk rfl)
theorem ok_rowM (h : Goes us ts n) {one one' : Nat → Res Nd} (h1 : ∀ p, p ≤ us.length → Okk us.length n SN (one p) (one' (n + p))) {e : List UInt8} (he : e ∉ starts) : ∀ (f : Nat) (acc acc' : List Nd) (q : Nat), SL acc acc' → q ≤ us.length → Okk us.length n SL (rowM us L one f e acc q) (rowM ts L' one' f e acc' (n + q))
  | 0, _, _, _, _, _ => Okk.out
  | f + 1, acc, acc', q, hs, hq => by
    unfold rowM
    rw [h.is_ hq he]
    split
    · rename_i hB
      exact Okk.ok (q := q + 1) (isT_lt hB) hs
    · exact (ok_take h (by decide) hq).bind fun _ _ r _ hr => (h1 r hr).bind fun x x' r' hx hr' => ok_rowM h h1 he f _ _ r' (sameL_snoc hs hx) hr'
theorem ok_rowG (h : Goes us ts n) {one one' : Nat → Res Nd} (h1 : ∀ p, p ≤ us.length → Okk us.length n SN (one p) (one' (n + p))) {e : List UInt8} (he : e ∉ starts) (f : Nat) (p : Nat) (hp : p ≤ us.length) : Okk us.length n SL (rowG us L one f e p) (rowG ts L' one' f e (n + p)) := by
  unfold rowG
  rw [h.is_ hp he]
  split
  · rename_i hB
    exact Okk.ok (q := p + 1) (isT_lt hB) rfl
  · exact (h1 p hp).bind fun x x' q hx hq => ok_rowM h h1 he f _ _ q (sameL_one hx) hq
theorem ok_params (h : Goes us ts n) (f : Nat) (p : Nat) (hp : p ≤ us.length) : Okk us.length n SN (paramsP us L f p) (paramsP ts L' f (n + p)) :=
  (ok_take h (by decide) hp).bind fun _ _ q _ hq => (ok_rowG h (fun _ _ => ok_nameN h) (by decide) f q hq).bind fun _ _ r hl hr => Okk.ok hr (sameN_mk hl)
variable {ex ex' : Nat → Res Nd}
theorem ok_args (h : Goes us ts n) (h1 : ∀ p, p ≤ us.length → Okk us.length n SN (ex p) (ex' (n + p))) (f : Nat) (p : Nat) (hp : p ≤ us.length) : Okk us.length n SN (argsO us L ex f p) (argsO ts L' ex' f (n + p)) :=
  (ok_take h (by decide) hp).bind fun _ _ q _ hq => (ok_rowG h h1 (by decide) f q hq).bind fun _ _ r hl hr => Okk.ok hr (sameN_mk hl)
theorem ok_atom (h : Goes us ts n) (h1 : ∀ p, p ≤ us.length → Okk us.length n SN (ex p) (ex' (n + p))) (f : Nat) (p : Nat) (hp : p ≤ us.length) : Okk us.length n SN (atomO us L ex f p) (atomO ts L' ex' f (n + p)) := by
  unfold atomO
  rw [h.is_ hp (s := [40]) (by decide), h.is_ hp (s := [91]) (by decide)]
  split
  · rename_i hB
    exact (h1 (p + 1) (isT_lt hB)).bind fun x x' q hx hq => (ok_take h (by decide) hq).bind fun _ _ e _ he => Okk.ok he hx
  · split
    · rename_i hB
      exact (ok_rowG h h1 (by decide) f (p + 1) (isT_lt hB)).bind fun l l' q hl hq => Okk.ok hq (sameN_mk hl)
    · by_cases hk : kindT us p = 1
      · have hlt := kindT_lt (ts := us) (p := p) (by rw [hk]; decide)
        obtain ⟨e1, e2⟩ := h.at_ p hlt
        rw [if_pos hk, if_pos (e1.trans hk), e2]
        exact Okk.ok (q := p + 1) hlt (sameN_mk rfl)
      · have hk2 : ¬ kindT ts (n + p) = 1 := by
          by_cases hlt : p < us.length
          · rw [(h.at_ p hlt).1]
            exact hk
          · obtain rfl : p = us.length := by omega
            exact h.num
        rw [if_neg hk, if_neg hk2]
        refine (ok_name h).bind fun s s' q hs hq => ?_
        subst hs
        rw [h.is_ hq (s := [40]) (by decide)]
        split
        · exact (ok_args h h1 f q hq).bind fun a a' r ha hr => Okk.ok hr (sameN_mk (sameL_one ha))
        · exact Okk.ok hq (sameN_mk rfl)
theorem ok_index (h : Goes us ts n) (h1 : ∀ p, p ≤ us.length → Okk us.length n SN (ex p) (ex' (n + p))) : ∀ (f : Nat) (x x' : Nd) (q : Nat), SN x x' → q ≤ us.length → Okk us.length n SN (indexL us L ex f x q) (indexL ts L' ex' f x' (n + q))
  | 0, _, _, _, _, _ => Okk.out
  | f + 1, x, x', q, hx, hq => by
    unfold indexL
    rw [h.is_ hq (s := [91]) (by decide)]
    split
    · rename_i hB
      exact (h1 (q + 1) (isT_lt hB)).bind fun y y' r hy hr => (ok_take h (by decide) hr).bind fun _ _ e _ he => ok_index h h1 f _ _ e (sameN_mk (sameL_two hx hy)) he
    · exact Okk.ok hq hx
theorem ok_unary (h : Goes us ts n) (h1 : ∀ p, p ≤ us.length → Okk us.length n SN (ex p) (ex' (n + p))) (F : Nat) : ∀ (f : Nat) (p : Nat), p ≤ us.length → Okk us.length n SN (unaryL us L ex F f p) (unaryL ts L' ex' F f (n + p))
  | 0, _, _ => Okk.out
  | f + 1, p, hp => by
    unfold unaryL
    rw [h.is_ hp (s := [45]) (by decide), h.is_ hp (s := [33]) (by decide)]
    split
    · rename_i hB
      have hlt : p < us.length := by
        rcases Bool.or_eq_true _ _ |>.mp hB with h | h <;> exact isT_lt h
      rw [(h.at_ p hlt).2]
      exact (ok_unary h h1 F f (p + 1) hlt).bind fun x x' q hx hq => Okk.ok hq (sameN_mk (sameL_one hx))
    · exact (ok_atom h h1 F p hp).bind fun x x' q hx hq => ok_index h h1 F x x' q hx hq
theorem any_eq (h : Goes us ts n) (k : Nat) (p : Nat) (hp : p ≤ us.length) : anyT ts (n + p) (signsK k) = anyT us p (signsK k) := by
  have hall : ∀ l : List (List UInt8), (∀ s ∈ l, s ∉ starts) → anyT ts (n + p) l = anyT us p l := by
    intro l
    unfold anyT
    induction l with
    | nil => intro _; rfl
    | cons s r ih =>
      intro hs
      rw [List.any_cons, List.any_cons, h.is_ hp (hs s (by simp)), ih fun x hx => hs x (by simp [hx])]
  apply hall
  unfold signsK
  repeat' split
  all_goals decide
theorem ok_levelM (h : Goes us ts n) {tight tight' : Nat → Res Nd} (h1 : ∀ p, p ≤ us.length → Okk us.length n SN (tight p) (tight' (n + p))) (k : Nat) : ∀ (f : Nat) (x x' : Nd) (q : Nat), SN x x' → q ≤ us.length → Okk us.length n SN (levelM us L tight k f x q) (levelM ts L' tight' k f x' (n + q))
  | 0, _, _, _, _, _ => Okk.out
  | f + 1, x, x', q, hx, hq => by
    unfold levelM
    rw [any_eq h k q hq]
    split
    · rename_i hB
      have hlt := anyT_lt hB
      rw [(h.at_ q hlt).2]
      refine (h1 (q + 1) hlt).bind fun y y' r hy hr => ?_
      split
      · exact Okk.ok hr (sameN_mk (sameL_two hx hy))
      · exact ok_levelM h h1 k f _ _ r (sameN_mk (sameL_two hx hy)) hr
    · exact Okk.ok hq hx
theorem ok_level (h : Goes us ts n) {tight tight' : Nat → Res Nd} (h1 : ∀ p, p ≤ us.length → Okk us.length n SN (tight p) (tight' (n + p))) (k f p : Nat) (hp : p ≤ us.length) : Okk us.length n SN (levelO us L tight k f p) (levelO ts L' tight' k f (n + p)) :=
  (h1 p hp).bind fun x x' q hx hq => ok_levelM h h1 k f x x' q hx hq
theorem ok_lev (h : Goes us ts n) (h1 : ∀ p, p ≤ us.length → Okk us.length n SN (ex p) (ex' (n + p))) (f : Nat) : ∀ (d p : Nat), p ≤ us.length → Okk us.length n SN (levO us L ex f d p) (levO ts L' ex' f d (n + p))
  | 0, p, hp => ok_unary h h1 f f p hp
  | d + 1, p, hp => ok_level h (fun p' hp' => ok_lev h h1 f d p' hp') _ f p hp
theorem ok_exprO (h : Goes us ts n) (h1 : ∀ p, p ≤ us.length → Okk us.length n SN (ex p) (ex' (n + p))) (f p : Nat) (hp : p ≤ us.length) : Okk us.length n SN (exprO us L ex f p) (exprO ts L' ex' f (n + p)) := by
  unfold exprO
  refine (ok_lev h h1 f 5 p hp).bind fun x x' q hx hq => ?_
  rw [h.is_ hq (s := [63]) (by decide)]
  split
  · rename_i hB
    exact (h1 (q + 1) (isT_lt hB)).bind fun y y' r hy hr => (ok_take h (by decide) hr).bind fun _ _ r' _ hr' => (h1 r' hr').bind fun z z' e hz he => Okk.ok he (sameN_mk (sameL_three hx hy hz))
  · exact Okk.ok hq hx
theorem ok_expr (h : Goes us ts n) : ∀ (f p : Nat), p ≤ us.length → Okk us.length n SN (exprP us L f p) (exprP ts L' f (n + p))
  | 0, _, _ => Okk.out
  | f + 1, p, hp => ok_exprO h (fun p' hp' => ok_expr h f p' hp') f p hp
variable {st st' : Nat → Res Nd}
theorem ok_blockL (h : Goes us ts n) (h1 : ∀ p, p ≤ us.length → Okk us.length n SN (st p) (st' (n + p))) : ∀ (f : Nat) (acc acc' : List Nd) (q : Nat), SL acc acc' → q ≤ us.length → Okk us.length n SL (blockL us st f acc q) (blockL ts st' f acc' (n + q))
  | 0, _, _, _, _, _ => Okk.out
  | f + 1, acc, acc', q, hs, hq => by
    unfold blockL
    rw [h.is_ hq (s := [125]) (by decide)]
    split
    · rename_i hB
      exact Okk.ok (q := q + 1) (isT_lt hB) hs
    · exact (h1 q hq).bind fun x x' r hx hr => ok_blockL h h1 f _ _ r (sameL_snoc hs hx) hr
theorem ok_block (h : Goes us ts n) (h1 : ∀ p, p ≤ us.length → Okk us.length n SN (st p) (st' (n + p))) (f p : Nat) (hp : p ≤ us.length) : Okk us.length n SN (blockO us L st f p) (blockO ts L' st' f (n + p)) :=
  (ok_take h (by decide) hp).bind fun _ _ q _ hq => (ok_blockL h h1 f [] [] q rfl hq).bind fun _ _ r hl hr => Okk.ok hr (sameN_mk hl)
theorem not_is_end (s : List UInt8) : isT us us.length s = false := by
  cases hB : isT us us.length s
  · rfl
  · exact absurd (isT_lt hB) (Nat.lt_irrefl _)
theorem ok_stmtO (h : Goes us ts n) (hx : ∀ p, p ≤ us.length → Okk us.length n SN (ex p) (ex' (n + p))) (hs : ∀ p, p ≤ us.length → Okk us.length n SN (st p) (st' (n + p))) (f p : Nat) (hp : p ≤ us.length) : Okk us.length n SN (stmtO us L ex st f p) (stmtO ts L' ex' st' f (n + p)) := by
  by_cases hlt : p < us.length
  · have B := fun q hq => ok_block (L := L) (L' := L') h hs f q hq
    unfold stmtO
    rw [h.is_lt hlt, h.is_lt hlt, h.is_lt hlt, h.is_lt hlt]
    split
    · exact (ok_name h (p := p + 1)).bind fun s s' q hs hq => by
        subst hs
        exact (ok_params h f q hq).bind fun x x' r hx' hr => (B r hr).bind fun y y' e hy he => Okk.ok he (sameN_mk (sameL_two hx' hy))
    · split
      · exact (ok_name h (p := p + 1)).bind fun s s' q hs hq => by
          subst hs
          exact (ok_params h f q hq).bind fun x x' r hx' hr => (ok_take h (by decide) hr).bind fun _ _ r1 _ hr1 => (hx r1 hr1).bind fun y y' r2 hy hr2 => (ok_take h (by decide) hr2).bind fun _ _ e _ he => Okk.ok he (sameN_mk (sameL_two hx' hy))
      · split
        · exact (ok_take h (p := p + 1) (by decide) hlt).bind fun _ _ q _ hq => (ok_name h (p := q)).bind fun s s' r hs hr => by
            subst hs
            exact (ok_take h (by decide) hr).bind fun _ _ r1 _ hr1 => (hx r1 hr1).bind fun x x' r2 hx' hr2 => (ok_take h (by decide) hr2).bind fun _ _ r3 _ hr3 => (B r3 hr3).bind fun y y' e hy he => Okk.ok he (sameN_mk (sameL_two hx' hy))
        · split
          · refine (ok_take h (p := p + 1) (by decide) hlt).bind fun _ _ q _ hq => (hx q hq).bind fun x x' r hx' hr => (ok_take h (by decide) hr).bind fun _ _ r1 _ hr1 => (B r1 hr1).bind fun y y' r2 hy hr2 => ?_
            rw [h.is_ hr2 (s := wElse) (by decide)]
            split
            · rename_i hB
              exact (B (r2 + 1) (isT_lt hB)).bind fun z z' e hz he => Okk.ok he (sameN_mk (sameL_three hx' hy hz))
            · exact Okk.ok hr2 (sameN_mk (sameL_two hx' hy))
          · refine (ok_name h (p := p)).bind fun s s' q hs hq => ?_
            subst hs
            rw [h.is_ hq (s := [61]) (by decide)]
            split
            · rename_i hB
              exact (hx (q + 1) (isT_lt hB)).bind fun x x' r hx' hr => (ok_take h (by decide) hr).bind fun _ _ e _ he => Okk.ok he (sameN_mk (sameL_one hx'))
            · refine (ok_args h hx f q hq).bind fun x x' r hx' hr => ?_
              rw [h.is_ hr (s := [123]) (by decide)]
              split
              · exact (B r hr).bind fun y y' e hy he => Okk.ok he (sameN_mk (sameL_two hx' hy))
              · exact (ok_take h (by decide) hr).bind fun _ _ e _ he => Okk.ok he (sameN_mk (sameL_one hx'))
  · obtain rfl : p = us.length := by omega
    have hbad : stmtO us L ex st f us.length = .bad us.length := by
      unfold stmtO
      rw [not_is_end, not_is_end, not_is_end, not_is_end]
      have hN : namedT us us.length = false := by
        cases hB : namedT us us.length
        · rfl
        · exact absurd (namedT_lt hB) (Nat.lt_irrefl _)
      unfold nameP
      rw [hN]
      rfl
    rw [hbad]
    exact Okk.bad
theorem ok_stmt (h : Goes us ts n) (F : Nat) : ∀ (f p : Nat), p ≤ us.length → Okk us.length n SN (stmtP us L F f p) (stmtP ts L' F f (n + p))
  | 0, _, _ => Okk.out
  | f + 1, p, hp => ok_stmtO h (fun p' hp' => ok_expr h F p' hp') (fun p' hp' => ok_stmt h F f p' hp') F p hp
theorem ok_stmts (h : Goes us ts n) (F : Nat) : ∀ (f : Nat) (acc : List Nd) (q : Nat) (l : List Nd) (r : Nat), q ≤ us.length → stmtsP us L F f acc q = .ok l r →
    r = us.length ∧ ∃ new, l = acc ++ new ∧ new.length < f ∧ ∀ g acc', ∃ new', SL new new' ∧ stmtsP ts L' F (new.length + g) acc' (n + q) = stmtsP ts L' F g (acc' ++ new') (n + us.length)
  | 0, _, _, _, _, _, hr => by cases hr
  | f + 1, acc, q, l, r, hq, hr => by
    unfold stmtsP at hr
    by_cases hle : us.length ≤ q
    · rw [if_pos hle] at hr
      cases hr
      obtain rfl : q = us.length := by omega
      refine ⟨rfl, [], by simp, by simp, fun g acc' => ⟨[], rfl, ?_⟩⟩
      rw [List.length_nil, Nat.zero_add, List.append_nil]
    · rw [if_neg hle] at hr
      cases hS : stmtP us L F F q with
      | out => rw [hS] at hr; cases hr
      | bad p => rw [hS] at hr; cases hr
      | ok x p =>
        rw [hS] at hr
        obtain ⟨hp, x', hx', hxx⟩ := ok_stmt (L := L) (L' := L') h F F q hq x p hS
        obtain ⟨hr1, new, hl, hlen, hg⟩ := ok_stmts h F f (acc ++ [x]) p l r hp hr
        refine ⟨hr1, x :: new, by rw [hl, List.append_assoc]; rfl, by simp; omega, fun g acc' => ?_⟩
        obtain ⟨new', hs', hh⟩ := hg g (acc' ++ [x'])
        refine ⟨x' :: new', sameL_app (sameL_one hxx) hs', ?_⟩
        have hts : ¬ ts.length ≤ n + q := by
          have h1 := (h.at_ q (by omega)).1
          have h2 := kindT_lt (ts := ts) (p := n + q) (by
            rw [h1]
            unfold kindT
            rw [List.getElem?_eq_getElem (by omega : q < us.length)]
            simp only
            omega)
          omega
        rw [List.length_cons, show new.length + 1 + g = (new.length + g) + 1 by omega]
        conv => lhs; unfold stmtsP
        rw [if_neg hts, hx']
        show stmtsP ts L' F (new.length + g) (acc' ++ [x']) (n + p) = _
        rw [hh, List.append_assoc]
        rfl
end
end Go.Proofs.YtpbkeamjdolpgaaGreatDoor
