/- The walk of the reference's Print; the walk of TreePrints. Plain: TreeBlanks' law: blanks and comments change nothing but places; a text behind another one adds its statements. The walk of TreeBlanks. -/
import Derived.Test.YtpbkeamjdolpgaaGreatDoorC03
import Derived.Test.YtpbkeamjdolpgaaGreatDoorC06
import Derived.Test.YtpbkeamjdolpgaaGreatDoorB26
namespace Go.Proofs.YtpbkeamjdolpgaaGreatDoor
open Go.RowKit Go.Lib Go.Shelf Go.Sort

theorem rlines_all : ∀ (N : Nat) (l : List Nd), wtL l < N → wtL l < 2 ^ 40 → stsR l = true → RLn l
  | 0, _, h, _, _ => by omega
  | N + 1, l, hN, hw, hR => by
    have := len_wtL l
    refine rlines_any l hR (fun x hx => ?_) (by omega)
    obtain ⟨k, n, kids, p⟩ := x
    have h1 := wtL_mem hx
    rw [wtN_mk] at h1
    show ∀ z ∈ kids, (exR z = true → RTx z) ∧ (exsR z.kids = true → RTs z.kids) ∧ (stsR z.kids = true → RIn z.kids)
    intro z hz
    have h2 := wtL_mem hz
    obtain ⟨k', n', kids', p'⟩ := z
    have h3 := h2
    rw [wtN_mk] at h3
    have h4 := len_wtL kids'
    refine ⟨fun h => rtext_all (wtN (.mk k' n' kids' p') + 1) _ (Nat.lt_succ_self _) (by omega) h, fun h => ?_, fun h => ?_⟩
    · exact rtexts_any kids' (fun y hy => rtext_all (wtN y + 1) y (Nat.lt_succ_self _) (by have := wtL_mem hy; omega) (exsR_mem h y hy)) (by omega)
    · exact rinner_any kids' (rlines_all N kids' (by omega) (by omega) h)
set_option maxHeartbeats 4000000 in
set_option maxRecDepth 100000 in
theorem rprint_any (ok : Nat → Prop) (l : List Nd) (hw : wtL l < 2 ^ 40) (hT : checkR l = 0 → (stsT l []).length ≤ 2 ^ 46) (y : Option Addr) (c : Nat) (w : World) (hG : Gl w) (hrow : NdRow w ok l y) :
    Calls Tryz.prog 22 #[.slice y l.length c] w (PrintEnd (printR l) w) := by
  have c0 := rcheck_any ok l hw y c w hG hrow
  by_cases hC : checkR l = 0
  · obtain ⟨_, hR⟩ := check_parts hC
    have C1 : Hid (∀ W, Below w.heap.size w W → Calls Tryz.prog 55 #[.slice y l.length c, .string ⟨([] : List UInt8).toArray⟩] W fun e w' => e = .returned (.string ⟨(stsT l []).toArray⟩) ∧ Below W.heap.size W w') := fun W hb =>
      rlines_all (wtL l + 1) l (Nat.lt_succ_self _) hw hR ok y c [] W (hrow.below hb) (hT hC) (by simp)
    have HG := Lib.hid hG
    obtain ⟨X, hX⟩ : ∃ X, stsT l [] = X := ⟨_, rfl⟩
    obtain ⟨T, hTk⟩ : ∃ T, tokensL X = T := ⟨_, rfl⟩
    have hP : printR l = prT X T := by rw [printR_of hC, hX, hTk]
    have c2 := fun W (hb : Below w.heap.size w W) => rtokens_all ⟨X.toArray⟩ W (hG.below hb)
    have e : (⟨X.toArray⟩ : ByteArray).data.toList = X := by simp
    rw [e, hTk] at c2
    rw [hX] at C1
    rw [hP]
    rw [hC] at c0
    have C2 := Lib.hid c2
    obtain ⟨n, hn⟩ : ∃ n, l.length = n := ⟨_, rfl⟩
    rw [hn] at c0 C1 ⊢
    clear hR hC hT hX hTk hP hrow hG hn hw c2 e
    go_enter Tryz.func22, Tryz.ntmps22
    go_wp2_with fail
    refine c0.mono ?_
    clear c0
    rintro e w1 ⟨rfl, hb1⟩
    have c1 := C1.out w1 hb1
    have HB1 := Lib.hid hb1
    clear C1 hb1
    go_wp2_with fail
    refine c1.mono ?_
    clear c1
    rintro e w2 ⟨rfl, hb2⟩
    have HB2 := Lib.hid (tr HB1.out hb2)
    have c2 := C2.out w2 HB2.out
    clear C2 hb2
    go_wp2_with fail
    refine c2.mono ?_
    clear c2
    cases T with
    | error f =>
      rintro e w3 ⟨hb3, b, hb, rfl, _⟩
      go_wp2_with fail
      go_ret2
      exact ⟨tr HB2.out hb3, rfl⟩
    | ok ts =>
      rintro e w3 ⟨hb3, v, rfl, _⟩
      go_wp2_with fail
      go_ret2
      exact ⟨tr HB2.out hb3, rfl⟩
  · have hP : printR l = ([], checkR l) := by unfold printR; rw [if_neg hC]
    rw [hP]
    obtain ⟨R, hR⟩ : ∃ R, checkR l = R := ⟨_, rfl⟩
    rw [hR] at c0 hC ⊢
    have Q : (R != 0) = true := by simpa using hC
    obtain ⟨n, hn⟩ : ∃ n, l.length = n := ⟨_, rfl⟩
    rw [hn] at c0 ⊢
    clear hP hR hC hn hw hT hG hrow
    go_enter Tryz.func22, Tryz.ntmps22
    go_wp2_with fail
    refine c0.mono ?_
    clear c0
    rintro e w1 ⟨rfl, hb1⟩
    go_wp2_with fail
    go_ret2
    exact ⟨hb1, rfl⟩
set_option maxHeartbeats 4000000 in
set_option maxRecDepth 100000 in
theorem treePrints_any (l : List Nd) (hok : OkL l) (hll : l.length < 2 ^ 62) (ok : Nat → Prop) (y : Option Addr) (c : Nat) (w : World) (hG : GlT w) (hrow : NdRow w ok l y) :
    Calls Tryz.prog 4 #[.slice y l.length c] w fun e w' => e = .returned (.bool true) ∧ Below w.heap.size w w' := by
  have c0 := works_any w hG
  have HROW := Lib.hid hrow
  have HG := Lib.hid hG
  have HOK := Lib.hid hok
  have HLL := Lib.hid hll
  obtain ⟨n, hn⟩ : ∃ n, l.length = n := ⟨_, rfl⟩
  have HN := Lib.hid hn
  rw [hn]
  clear hrow hG hok hll hn
  go_enter Tryz.func4, Tryz.ntmps4
  go_wp2_with fail
  refine c0.mono ?_
  clear c0
  rintro e w1 ⟨rfl, hb1⟩
  have c1 := beyond_any ok l HOK.out HLL.out y c w1 (HROW.out.below hb1)
  rw [HN.out] at c1
  have HB1 := Lib.hid hb1
  clear hb1
  go_wp2_with fail
  refine c1.mono ?_
  clear c1
  rintro e w2 ⟨⟨r, rfl, hr⟩, hb2⟩
  have HB2 := Lib.hid (tr HB1.out hb2)
  clear hb2
  cases r
  · have hw : wtL l ≤ 48000 := hr rfl
    have HW := Lib.hid hw
    have hs40 : szL l < 2 ^ 40 := by have := sz_wtL l; omega
    have HS40 := Lib.hid hs40
    have c2 := twin_any ok (szL l + 1) l (Nat.lt_succ_self _) hs40 y c w2 (HROW.out.below HB2.out)
    rw [HN.out] at c2
    clear hr hw hs40
    go_wp2_with fail
    refine c2.mono ?_
    clear c2
    rintro e w3 ⟨v, rfl, hown, hb3⟩
    obtain ⟨y3, c3, rfl, _, hrow3⟩ := hown.shape
    have HB3 := Lib.hid (tr HB2.out hb3)
    have HR3 := Lib.hid hrow3
    have c4 := check_any _ l (by have := HW.out; omega) y3 c3 w3 (HG.out.1.below HB3.out) hrow3
    rw [HN.out] at c4 ⊢
    obtain ⟨K, hK⟩ : ∃ K, checkR l = K := ⟨_, rfl⟩
    rw [hK] at c4
    have HK := Lib.hid hK
    clear hb3 hown hrow3 hK
    go_wp2_with fail
    refine c4.mono ?_
    clear c4
    rintro e w4 ⟨rfl, hb4⟩
    have HB4 := Lib.hid (tr HB3.out hb4)
    have HR4 := Lib.hid (HR3.out.below hb4)
    have c5 := print_any _ l (by have := HW.out; omega) (fun h => by have := text_len l h; have := HW.out; omega) y3 c3 w4 (HG.out.1.below HB4.out) HR4.out
    obtain ⟨⟨s, ec⟩, hp⟩ : ∃ p, printR l = p := ⟨_, rfl⟩
    rw [hp, HN.out] at c5
    have HP := Lib.hid hp
    clear hb4 hp
    go_wp2_with fail
    refine c5.mono ?_
    clear c5
    rintro e w5 ⟨hb5, rfl⟩
    have HB5 := Lib.hid (tr HB4.out hb5)
    have HR5 := Lib.hid (HR4.out.below hb5)
    have c6 := rprint_any ok l (by have := HW.out; omega) (fun h => by have := text_len l h; have := HW.out; omega) y c w5 (HG.out.1.below HB5.out) (HROW.out.below HB5.out)
    rw [HP.out, HN.out] at c6
    clear hb5
    go_wp2_with fail
    refine c6.mono ?_
    clear c6
    rintro e w6 ⟨hb6, rfl⟩
    have HB6 := Lib.hid (tr HB5.out hb6)
    have HR6 := Lib.hid (HR5.out.below hb6)
    have c7 := rcheck_any ok l (by have := HW.out; omega) y c w6 (HG.out.1.below HB6.out) (HROW.out.below HB6.out)
    rw [HK.out, HN.out] at c7
    clear hb6
    go_wp2_with fail
    refine c7.mono ?_
    clear c7
    rintro e w7 ⟨rfl, hb7⟩
    have HB7 := Lib.hid (tr HB6.out hb7)
    have c8 := same27_any (fun _ => True) (szL l + 1) l (Nat.lt_succ_self _) HS40.out y y3 c c3 w7 ((HROW.out.below HB7.out).wide fun _ _ _ => trivial) ((HR6.out.below hb7).wide fun _ _ _ => trivial)
    rw [HN.out] at c8
    have Q1 : (K == K) = true := by simp
    have Q2 : (ec == ec) = true := by simp
    have Q3 : (s == s) = true := by simp
    clear hb7
    go_wp2_with fail
    refine c8.mono ?_
    clear c8
    rintro e w8 ⟨rfl, hb8⟩
    go_wp2_with fail
    go_ret
    exact ⟨by simp, tr HB7.out hb8⟩
  · have c2 := works_any w2 (HG.out.below HB2.out)
    clear hr
    go_wp2_with fail
    refine c2.mono ?_
    clear c2
    rintro e w3 ⟨rfl, hb3⟩
    go_wp2_with fail
    go_ret
    exact ⟨rfl, tr HB2.out hb3⟩
end Go.Proofs.YtpbkeamjdolpgaaGreatDoor
namespace Go.Proofs.YtpbkeamjdolpgaaGreatDoor
open Go.RowKit Go.Lib

theorem Sc.skip {c l : List UInt8} {ws : List Wd} (h : Sc l ws) (hc : skipL (c ++ l) = c.length + skipL l) : Sc (c ++ l) ws := by
  intro f n p hn hf
  have e : scanL f n p (c ++ l) = scanL f n (p + c.length) l := by
    unfold scanL
    rw [hc, ← List.drop_drop, List.drop_left, Nat.add_assoc]
  rw [e]
  exact h f n _ hn (by rw [List.length_append] at hf; omega)
/-- What may stand behind a text. -/
structure Suf (z : List UInt8) (wz : List Wd) : Prop where
  word : ∀ m, m ≠ [] → wordL (m ++ z) = wordL m
  skip0 : ∀ m, m ≠ [] → skipL m = 0 → skipL (m ++ z) = 0
  all : ∀ l, skipL l = l.length → skipL (l ++ z) = l.length + skipL z
  some : ∀ l, skipL l ≠ l.length → skipL (l ++ z) = skipL l
  sc : Sc z wz
theorem Suf.nil : Suf [] [] where
  word m _ := by rw [List.append_nil]
  skip0 m _ h := by rw [List.append_nil]; exact h
  all l h := by rw [List.append_nil, h]; rfl
  some l _ := by rw [List.append_nil]
  sc := Sc.nil
theorem Suf.line {t : List UInt8} {wt : List Wd} (h : Sc t wt) : Suf (10 :: t) wt where
  word m hm := wordL_app m 10 t hm rfl
  skip0 m hm h0 := skip_app0 10 t m (by decide) hm h0
  all l hl := by
    have h1 := skip_app10 t false l
    have h2 : skipL (10 :: t) = 1 + skipL t := by unfold skipL; rw [skip_cons, if_pos (by rfl)]
    unfold skipL at hl h2 ⊢
    rw [h1, if_pos hl, h2]
  some l hl := by
    have h1 := skip_app10 t false l
    unfold skipL at hl ⊢
    rw [h1, if_neg hl]
  sc := Sc.blank rfl h
theorem sc_of {z : List UInt8} {wz : List Wd} (hz : Suf z wz) : ∀ (f n p : Nat) (l : List UInt8) (ts : List Tk), scanL f n p l = .ok ts → l.length ≤ f → Sc (l ++ z) (ts.map kt ++ wz)
  | f, n, p, l, ts, h, hf => by
    have hsk : skipL l ≤ l.length := skipB_le _ _
    unfold scanL at h
    by_cases hq : skipL l = l.length
    · rw [hq, List.drop_eq_nil_of_le (Nat.le_refl _)] at h
      have hts : ts = [] := by
        cases f <;> simp [toksL] at h <;> exact h
      subst hts
      exact Sc.skip hz.sc (hz.all l hq)
    · obtain ⟨m, hm⟩ : ∃ m, l.drop (skipL l) = m := ⟨_, rfl⟩
      have hml : m.length = l.length - skipL l := by rw [← hm, List.length_drop]
      have hmne : m ≠ [] := by intro h0; rw [h0] at hml; simp at hml; omega
      have hm0 : skipL m = 0 := by rw [← hm]; exact skip_idem false l
      have e : l ++ z = l.take (skipL l) ++ (m ++ z) := by rw [← hm, ← List.append_assoc, List.take_append_drop]
      rw [hm] at h
      have hs0 := hz.skip0 m hmne hm0
      have hgo : Sc (m ++ z) (ts.map kt ++ wz) := by
        cases f with
        | zero => omega
        | succ f =>
          rw [toksL_step _ _ _ _ hmne] at h
          have hw := wordL_le m
          by_cases h0 : (wordL m).2 = 0
          · rw [if_pos h0] at h; cases h
          · rw [if_neg h0] at h
            by_cases h1 : n = 4096
            · rw [if_pos h1] at h; cases h
            · rw [if_neg h1] at h
              obtain ⟨X, hX⟩ : ∃ X, toksL f (n + 1) (p + skipL l + (wordL m).2 + skipL (m.drop (wordL m).2)) (m.drop ((wordL m).2 + skipL (m.drop (wordL m).2))) = X := ⟨_, rfl⟩
              rw [hX] at h
              cases X with
              | error x => cases h
              | ok us =>
                cases h
                have ih := sc_of hz f (n + 1) (p + skipL l + (wordL m).2) (m.drop (wordL m).2) us (by unfold scanL; rw [List.drop_drop]; exact hX) (by rw [List.length_drop]; omega)
                have e2 : m ++ z = m.take (wordL m).2 ++ (m.drop (wordL m).2 ++ z) := by rw [← List.append_assoc, List.take_append_drop]
                have hlen : (m.take (wordL m).2).length = (wordL m).2 := by rw [List.length_take]; omega
                have := Sc.tok (w := m.take (wordL m).2) (r := m.drop (wordL m).2 ++ z) (k := (wordL m).1) (by rw [← e2, hz.word m hmne, hlen]) (by intro h2; rw [h2] at hlen; exact h0 hlen.symm) (by rw [← e2]; exact hs0) ih
                rw [e2]
                exact this
      rw [e]
      refine Sc.skip hgo ?_
      rw [← e, hz.some l hq, hs0, List.length_take]
      omega
theorem scan_of {s : List UInt8} {ts : List Tk} (h : tokensL s = .ok ts) : scanL s.length 0 0 s = .ok ts := by
  unfold tokensL at h
  split at h
  · cases h
  · unfold scanL
    rw [Nat.zero_add]
    exact h
theorem sc_self {s : List UInt8} {ts : List Tk} (h : tokensL s = .ok ts) : Sc s (ts.map kt) := by
  have := sc_of Suf.nil _ _ _ _ _ (scan_of h) (Nat.le_refl _)
  rwa [List.append_nil, List.append_nil] at this
theorem sc_lines {s t : List UInt8} {a b : List Tk} (ha : tokensL s = .ok a) (hb : tokensL t = .ok b) : Sc (s ++ 10 :: t) (a.map kt ++ b.map kt) :=
  sc_of (Suf.line (sc_self hb)) _ _ _ _ _ (scan_of ha) (Nat.le_refl _)

def sepW : List UInt8 := [32, 47, 47, 32, 109, 111, 114, 101, 32, 255, 10, 9]
def beginsW : List UInt8 := [47, 47, 32, 98, 101, 103, 105, 110, 115, 10]
def looseT (ws : List (List UInt8)) : List UInt8 := beginsW ++ Lib.join ws sepW ++ [13, 10]
theorem skc_in (c : UInt8) (r : List UInt8) (h : c ≠ 10) : skipB true (c :: r) = 1 + skipB true r := by rw [skipB, if_neg h]
theorem skc_nl (r : List UInt8) : skipB true (10 :: r) = 1 + skipB false r := by rw [skipB, if_pos rfl]
theorem skc_com (r : List UInt8) : skipB false (47 :: 47 :: r) = 1 + skipB true (47 :: r) := by rw [skip_cons, if_neg (by decide), if_pos ⟨rfl, rfl⟩]
theorem skc_bl (c : UInt8) (r : List UInt8) (h : isBl c = true) : skipB false (c :: r) = 1 + skipB false r := by rw [skip_cons, if_pos h]
theorem skip_sep (r : List UInt8) : skipL (sepW ++ r) = sepW.length + skipL r := by
  show skipB false (32 :: 47 :: 47 :: 32 :: 109 :: 111 :: 114 :: 101 :: 32 :: 255 :: 10 :: 9 :: r) = 12 + skipB false r
  rw [skc_bl _ _ (by decide), skc_com]
  iterate 8 rw [skc_in _ _ (by decide)]
  rw [skc_nl, skc_bl _ _ (by decide)]
  omega
theorem skip_begins (r : List UInt8) : skipL (beginsW ++ r) = beginsW.length + skipL r := by
  show skipB false (47 :: 47 :: 32 :: 98 :: 101 :: 103 :: 105 :: 110 :: 115 :: 10 :: r) = 10 + skipB false r
  rw [skc_com]
  iterate 8 rw [skc_in _ _ (by decide)]
  rw [skc_nl]
  omega
theorem tokens_words {s : List UInt8} {ts : List Tk} (h : tokensL s = .ok ts) : ∀ t ∈ ts, wordL t.2.1 = (t.1, t.2.1.length) ∧ 0 < t.2.1.length ∧ skipL t.2.1 = 0 := by
  unfold tokensL at h
  split at h
  · cases h
  · exact toksL_ok _ _ _ _ _ (skip_idem false s) h
theorem sc_join : ∀ (ts : List Tk) (r : List UInt8) (wr : List Wd), (∀ t ∈ ts, wordL t.2.1 = (t.1, t.2.1.length) ∧ 0 < t.2.1.length ∧ skipL t.2.1 = 0) → Sc r wr → En r →
    Sc (Lib.joinTail sepW (ts.map fun t => t.2.1) ++ r) (ts.map kt ++ wr) ∧ En (Lib.joinTail sepW (ts.map fun t => t.2.1) ++ r)
  | [], r, wr, _, hr, he => ⟨by simpa [Lib.joinTail] using hr, by simpa [Lib.joinTail] using he⟩
  | t :: ts, r, wr, h, hr, he => by
    obtain ⟨h1, h2⟩ := sc_join ts r wr (fun u hu => h u (List.mem_cons_of_mem _ hu)) hr he
    obtain ⟨k1, k2, k3⟩ := h t (by simp)
    have e : Lib.joinTail sepW ((t :: ts).map fun t => t.2.1) ++ r = sepW ++ (t.2.1 ++ (Lib.joinTail sepW (ts.map fun t => t.2.1) ++ r)) := by
      simp [Lib.joinTail, List.append_assoc]
    rw [e]
    refine ⟨?_, ?_⟩
    · refine Sc.skip ?_ (skip_sep _)
      show Sc _ ((t.1, t.2.1) :: (ts.map kt ++ wr))
      exact Sc.word k1 (List.length_pos_iff.1 k2) k3 h2 h1
    · intro c hc
      cases hc
      rfl
theorem sc_loose (ts : List Tk) (h : ∀ t ∈ ts, wordL t.2.1 = (t.1, t.2.1.length) ∧ 0 < t.2.1.length ∧ skipL t.2.1 = 0) : Sc (looseT (ts.map fun t => t.2.1)) (ts.map kt) := by
  unfold looseT
  rw [List.append_assoc]
  refine Sc.skip ?_ (skip_begins _)
  have hr : Sc [13, 10] [] := Sc.blanks (b := [13, 10]) Sc.nil (by decide)
  have he : En [13, 10] := fun c hc => by cases hc; rfl
  cases ts with
  | nil => exact hr
  | cons t ts =>
    obtain ⟨h1, h2⟩ := sc_join ts [13, 10] [] (fun u hu => h u (List.mem_cons_of_mem _ hu)) hr he
    obtain ⟨k1, k2, k3⟩ := h t (by simp)
    rw [List.map_cons, Lib.join_cons, List.append_assoc]
    have := Sc.word k1 (List.length_pos_iff.1 k2) k3 h2 h1
    rw [List.append_nil] at this
    exact this
theorem places_len (s : List UInt8) : ∀ (ts : List Tk) (e : Nat), PlOk s e ts → e ≤ s.length → e + (ts.map fun t => t.2.1.length).sum ≤ s.length ∧ ts.length ≤ (ts.map fun t => t.2.1.length).sum
  | [], e, _, he => ⟨by simpa using he, by simp⟩
  | t :: ts, e, h, he => by
    obtain ⟨h1, _, h2, h3, _, h4⟩ := h
    obtain ⟨k1, k2⟩ := places_len s ts _ h4 h3
    have := List.length_pos_iff.2 h2
    rw [List.map_cons, List.sum_cons, List.length_cons]
    exact ⟨by omega, by omega⟩
theorem tail_len (sep : List UInt8) : ∀ ts : List Tk, (Lib.joinTail sep (ts.map fun t => t.2.1)).length = sep.length * ts.length + (ts.map fun t => t.2.1.length).sum
  | [] => by simp [Lib.joinTail]
  | t :: ts => by
    have ih := tail_len sep ts
    simp only [Lib.joinTail, List.map_cons, List.flatten_cons, List.length_append, List.length_cons, List.sum_cons] at ih ⊢
    rw [ih, Nat.mul_add]
    omega
theorem loose_len {s : List UInt8} {ts : List Tk} (h : tokensL s = .ok ts) (hs : s.length ≤ 8192) : (looseT (ts.map fun t => t.2.1)).length ≤ 57400 := by
  have h1 := (places_len s ts 0 (tokensL_places s ts h) (Nat.zero_le _)).1
  have h2 := tokensL_len s ts h
  unfold looseT
  rw [List.length_append, List.length_append]
  show 10 + _ + 2 ≤ _
  cases ts with
  | nil => simp [Lib.join_nil]
  | cons t ts =>
    rw [List.map_cons, Lib.join_cons, List.length_append, tail_len]
    rw [List.map_cons, List.sum_cons] at h1
    rw [List.length_cons] at h2
    show 10 + (_ + (12 * _ + _)) + 2 ≤ _
    omega

theorem kind_kt (ts : List Tk) (p : Nat) : kindT ts p = match (ts.map kt)[p]? with | some t => (t.1 : Int) | none => -1 := by
  unfold kindT
  rw [List.getElem?_map]
  cases ts[p]? <;> rfl
theorem text_kt (ts : List Tk) (p : Nat) : textT ts p = match (ts.map kt)[p]? with | some t => t.2 | none => [] := by
  unfold textT
  rw [List.getElem?_map]
  cases ts[p]? <;> rfl
theorem goes_of {us ts : List Tk} {n : Nat} (h : ∀ p, p < us.length → (ts.map kt)[n + p]? = (us.map kt)[p]?) (hend : ∀ s, s ∉ starts → isT ts (n + us.length) s = false) (hnum : kindT ts (n + us.length) ≠ 1) : Goes us ts n :=
  ⟨fun p hp => by rw [kind_kt, kind_kt, text_kt, text_kt, h p hp]; exact ⟨rfl, rfl⟩, hend, hnum⟩
theorem end_is {ts : List Tk} {p : Nat} (h : p = ts.length) (s : List UInt8) : isT ts p s = false := by
  rw [h]
  exact not_is_end s
theorem end_num {ts : List Tk} {p : Nat} (h : p = ts.length) : kindT ts p ≠ 1 := by
  unfold kindT
  rw [h, List.getElem?_eq_none (Nat.le_refl _)]
  simp
/-- What is known of statements that are parsed. -/
theorem parseT_of {ts : List Tk} {L : Nat} {l : List Nd} (hn : ts.length ≤ 4096) (h : parseT ts L = .ok l) : stmtsP ts L 8192 8192 [] 0 = .ok l ts.length ∧ deepL l 1 = none ∧ l.length ≤ ts.length := by
  unfold parseT at h
  cases hp : stmtsP ts L 8192 8192 [] 0 with
  | out => rw [hp] at h; cases h
  | bad q => rw [hp] at h; cases h
  | ok m q =>
    rw [hp] at h
    have hz := parse_sz (by omega) (by omega) hp
    have hl := len_szL m
    have h1 := (ok_stmts (us := ts) (ts := ts) (L := L) (L' := L) (n := 0) (goes_of (fun p _ => by rw [Nat.zero_add]) (fun s _ => end_is (by omega) s) (end_num (by omega))) 8192 8192 [] 0 m q (Nat.zero_le _) hp).1
    subst h1
    dsimp only at h
    cases hd : deepL m 1 with
    | some x => rw [hd] at h; cases h
    | none =>
      rw [hd] at h
      cases h
      exact ⟨rfl, hd, by omega⟩
theorem parseT_mk {ts : List Tk} {L : Nat} {l : List Nd} {q : Nat} (h : stmtsP ts L 8192 8192 [] 0 = .ok l q) (hd : deepL l 1 = none) : parseT ts L = .ok l := by
  unfold parseT
  rw [h]
  dsimp only
  rw [hd]
theorem stmtsP_stop {ts : List Tk} {L F g : Nat} {acc : List Nd} {q : Nat} (hg : 0 < g) (h : ts.length ≤ q) : stmtsP ts L F g acc q = .ok acc q := by
  obtain ⟨k, rfl⟩ : ∃ k, g = k + 1 := ⟨g - 1, by omega⟩
  rw [stmtsP, if_pos h]
theorem parse_goes {us ts : List Tk} {L L' : Nat} {l : List Nd} (hn : us.length ≤ 4096) (hk : ts.map kt = us.map kt) (h : parseT us L = .ok l) : ∃ m, parseT ts L' = .ok m ∧ sameL l m = true := by
  obtain ⟨h1, h2, h3⟩ := parseT_of hn h
  have hl : ts.length = us.length := by simpa using congrArg List.length hk
  have hG : Goes us ts 0 := goes_of (fun p _ => by rw [Nat.zero_add, hk]) (fun s _ => end_is (by omega) s) (end_num (by omega))
  obtain ⟨_, new, e, hlt, hg⟩ := ok_stmts (L' := L') hG 8192 8192 [] 0 l _ (Nat.zero_le _) h1
  rw [List.nil_append] at e
  subst e
  obtain ⟨new', hs, hh⟩ := hg (8192 - l.length) []
  rw [show l.length + (8192 - l.length) = 8192 by omega] at hh
  have h4 : stmtsP ts L' 8192 8192 [] 0 = .ok new' (0 + us.length) := hh.trans (stmtsP_stop (by omega) (by omega))
  exact ⟨new', parseT_mk h4 (same_deepL l _ 1 hs h2), hs⟩
theorem deepL_app : ∀ (a b : List Nd) (d : Nat), deepL a d = none → deepL b d = none → deepL (a ++ b) d = none
  | [], b, d, _, h => h
  | x :: a, b, d, h, hb => by
    rw [List.cons_append, deepL]
    rw [deepL] at h
    by_cases hd : 64 < d
    · rw [if_pos hd] at h; cases h
    · rw [if_neg hd] at h ⊢
      cases hx : deepN x d with
      | some z => rw [hx] at h; cases h
      | none =>
        rw [hx] at h
        exact deepL_app a b d h hb
theorem takeP_is {ts : List Tk} {L p a q : Nat} {s : List UInt8} (h : takeP ts L s p = .ok a q) : isT ts p s = true := by
  unfold takeP at h
  split at h
  · rename_i hB; exact hB
  · cases h
/-- A statement begins with a name, or a word that begins one. -/
theorem stmt_first {ts : List Tk} {L F f p : Nat} {x : Nd} {q : Nat} (h : stmtP ts L F f p = .ok x q) : (∃ w ∈ starts, isT ts p w = true) ∨ namedT ts p = true := by
  cases f with
  | zero => cases h
  | succ f =>
    have h : stmtO ts L (exprP ts L F) (stmtP ts L F f) F p = .ok x q := h
    unfold stmtO at h
    split at h
    · rename_i hB; exact .inl ⟨_, by decide, hB⟩
    · split at h
      · rename_i hB; exact .inl ⟨_, by decide, hB⟩
      · split at h
        · rename_i hB; exact .inl ⟨_, by decide, hB⟩
        · split at h
          · rename_i hB; exact .inl ⟨_, by decide, hB⟩
          · obtain ⟨s, r1, a1, h⟩ := bind_ok h
            unfold nameP at a1
            split at a1
            · rename_i hB; exact .inr hB
            · cases a1
theorem first_is {ts : List Tk} {p : Nat} (h : (∃ w ∈ starts, isT ts p w = true) ∨ namedT ts p = true) (s : List UInt8) (hs : s ∉ starts) : isT ts p s = false := by
  cases hB : isT ts p s
  · rfl
  · exfalso
    unfold isT at hB
    simp only [Bool.and_eq_true, Bool.or_eq_true, decide_eq_true_eq] at hB
    rcases h with ⟨w, hw, h⟩ | h
    · unfold isT at h
      simp only [Bool.and_eq_true, decide_eq_true_eq] at h
      exact hs (by rw [← hB.1, h.1]; exact hw)
    · unfold namedT at h
      simp only [Bool.and_eq_true, Bool.not_eq_true', decide_eq_true_eq] at h
      rcases hB.2 with h2 | h2
      · rw [h.1] at h2; cases h2
      · rw [hB.1, h2.2] at h; cases h.2
theorem first_num {ts : List Tk} {p : Nat} (h : (∃ w ∈ starts, isT ts p w = true) ∨ namedT ts p = true) : kindT ts p ≠ 1 := by
  rcases h with ⟨w, hw, h⟩ | h
  · unfold isT at h
    simp only [Bool.and_eq_true, Bool.or_eq_true, decide_eq_true_eq] at h
    rcases h.2 with h2 | h2
    · rw [h2]; decide
    · rw [h2.1]; decide
  · unfold namedT at h
    simp only [Bool.and_eq_true, decide_eq_true_eq] at h
    rw [h.1]; decide
theorem is_kt {ts us : List Tk} {p q : Nat} (h : (ts.map kt)[p]? = (us.map kt)[q]?) (s : List UInt8) : isT ts p s = isT us q s := by
  unfold isT
  rw [kind_kt, text_kt, kind_kt us, text_kt us, h]
theorem stmts_first {ts : List Tk} {L : Nat} {l : List Nd} {q : Nat} (h0 : 0 < ts.length) (h : stmtsP ts L 8192 8192 [] 0 = .ok l q) : (∃ w ∈ starts, isT ts 0 w = true) ∨ namedT ts 0 = true := by
  have h : stmtsP ts L 8192 (8191 + 1) [] 0 = .ok l q := h
  rw [stmtsP, if_neg (by omega)] at h
  obtain ⟨x, r, h1, _⟩ := bind_ok h
  exact stmt_first h1
theorem both_goes {a b c : List Tk} {L1 L2 L : Nat} {l m : List Nd} (hc : c.length ≤ 4096) (hk : c.map kt = a.map kt ++ b.map kt) (ha : parseT a L1 = .ok l) (hb : parseT b L2 = .ok m) :
    ∃ l' m', parseT c L = .ok (l' ++ m') ∧ sameL l l' = true ∧ sameL m m' = true := by
  have hl : c.length = a.length + b.length := by simpa using congrArg List.length hk
  obtain ⟨a1, a2, a3⟩ := parseT_of (by omega) ha
  obtain ⟨b1, b2, b3⟩ := parseT_of (by omega) hb
  have hb0 : (c.map kt)[a.length]? = (b.map kt)[0]? := by rw [hk, List.getElem?_append_right (by simp)]; simp
  have hGb : Goes b c a.length := goes_of (fun p hp => by rw [hk, List.getElem?_append_right (by simp)]; simp) (fun s _ => end_is (by omega) s) (end_num (by omega))
  have hGa : Goes a c 0 := by
    refine goes_of (fun p hp => by rw [Nat.zero_add, hk, List.getElem?_append_left (by simpa using hp)]) (fun s hs => ?_) ?_
    · rw [Nat.zero_add]
      by_cases h0 : b.length = 0
      · exact end_is (by omega) s
      · rw [is_kt hb0]
        exact first_is (stmts_first (by omega) b1) s hs
    · rw [Nat.zero_add]
      by_cases h0 : b.length = 0
      · exact end_num (by omega)
      · rw [kind_kt, hb0, ← kind_kt]
        exact first_num (stmts_first (by omega) b1)
  obtain ⟨_, n1, e1, hlt1, hg1⟩ := ok_stmts (L' := L) hGa 8192 8192 [] 0 l _ (Nat.zero_le _) a1
  obtain ⟨_, n2, e2, hlt2, hg2⟩ := ok_stmts (L' := L) hGb 8192 8192 [] 0 m _ (Nat.zero_le _) b1
  rw [List.nil_append] at e1 e2
  subst e1 e2
  obtain ⟨l', hs1, hh1⟩ := hg1 (8192 - l.length) []
  obtain ⟨m', hs2, hh2⟩ := hg2 (8192 - l.length - m.length) l'
  rw [show l.length + (8192 - l.length) = 8192 by omega, List.nil_append, show 0 + a.length = a.length by omega] at hh1
  rw [show m.length + (8192 - l.length - m.length) = 8192 - l.length by omega, Nat.add_zero] at hh2
  have hh3 : stmtsP c L 8192 8192 [] 0 = .ok (l' ++ m') (a.length + b.length) := hh1.trans (hh2.trans (stmtsP_stop (by omega) (by omega)))
  exact ⟨l', m', parseT_mk hh3 (deepL_app _ _ 1 (same_deepL l _ 1 hs1 a2) (same_deepL m _ 1 hs2 b2)), hs1, hs2⟩
theorem parseR_ok {s : List UInt8} {l : List Nd} (h : parseR s = .ok l) : ∃ ts, tokensL s = .ok ts ∧ parseT ts s.length = .ok l := by
  unfold parseR at h
  cases ht : tokensL s with
  | error f => rw [ht] at h; cases h
  | ok ts =>
    rw [ht] at h
    exact ⟨ts, rfl, h⟩
/-- TreeBlanks: what the texts that are put together are parsed to. -/
theorem blanks_law {s t : List UInt8} {l m : List Nd} (hs : s.length ≤ 8192) (ht : t.length ≤ 8192) (hl : parseR s = .ok l) (hm : parseR t = .ok m) :
    ∃ a, tokensL s = .ok a ∧ (∃ l', parseR (looseT (a.map fun t => t.2.1)) = .ok l' ∧ sameL l l' = true) ∧
      ((∃ c d, parseR (s ++ 10 :: t) = .ok (c ++ d) ∧ sameL c l = true ∧ sameL d m = true) ∨ ((∃ f, parseR (s ++ 10 :: t) = .error f) ∧ (1000 < a.length ∨ 1000 < s.length ∨ 1000 < t.length))) := by
  obtain ⟨a, ha, hpa⟩ := parseR_ok hl
  obtain ⟨b, hb, hpb⟩ := parseR_ok hm
  have hna := tokensL_len s a ha
  have hnb := tokensL_len t b hb
  refine ⟨a, ha, ?_, ?_⟩
  · obtain ⟨us, h1, h2⟩ := (sc_loose a (tokens_words ha)).all (by have := loose_len ha hs; omega) (by rw [List.length_map]; exact hna)
    obtain ⟨l', h3, h4⟩ := parse_goes (L' := (looseT (a.map fun t => t.2.1)).length) hna h2 hpa
    refine ⟨l', ?_, h4⟩
    unfold parseR
    rw [h1]
    exact h3
  · cases hc : tokensL (s ++ 10 :: t) with
    | ok c =>
      have hk := (sc_lines ha hb).tokens hc
      have hnc := tokensL_len _ _ hc
      obtain ⟨l', m', h1, h2, h3⟩ := both_goes (L := (s ++ 10 :: t).length) hnc hk hpa hpb
      refine .inl ⟨l', m', ?_, sameL_symm h2, sameL_symm h3⟩
      unfold parseR
      rw [hc]
      exact h1
    | error f =>
      refine .inr ⟨⟨_, by unfold parseR; rw [hc]⟩, ?_⟩
      by_cases h1 : 1000 < a.length ∨ 1000 < s.length ∨ 1000 < t.length
      · exact h1
      · exfalso
        have h2 := places_len t b 0 (tokensL_places t b hb) (Nat.zero_le _)
        obtain ⟨us, h3, _⟩ := (sc_lines ha hb).all (by simp; omega) (by rw [List.length_append, List.length_map, List.length_map]; omega)
        rw [hc] at h3
        cases h3
end Go.Proofs.YtpbkeamjdolpgaaGreatDoor
namespace Go.Proofs.YtpbkeamjdolpgaaGreatDoor
open Go.RowKit Go.Lib Go.Shelf Go.Sort

theorem Tryz.infoStrB : (Tryz.prog.info? 9).map (fun i => (i.zero, i.size, i.bytes)) = some (some (.string ⟨#[]⟩), 1, 16) := by kernel_rfl
/-- A row's beginning, and what stands behind it. -/
theorem NdRow.left {w : World} {ok : Nat → Prop} : ∀ {a b : List Nd} {y : Option Addr}, NdRow w ok (a ++ b) y → NdRow w ok a y
  | [], _, _, _ => trivial
  | _ :: _, _, _, h => by
    obtain ⟨B, o, h1, h2, h3⟩ := h
    exact ⟨B, o, h1, h2, NdRow.left h3⟩
theorem NdRow.right {w : World} {ok : Nat → Prop} : ∀ {a b : List Nd} {y : Option Addr} , NdRow w ok (a ++ b) y → b ≠ [] → ∃ B o, y = some ⟨B, o, none⟩ ∧ NdRow w ok b (some ⟨B, o + a.length * 4, none⟩)
  | [], [], _, _, hb => absurd rfl hb
  | [], _ :: _, _, h, _ => by
    obtain ⟨B, o, h1, h2, h3⟩ := h
    exact ⟨B, o, h1, B, o, rfl, h2, h3⟩
  | x :: a, b, y, h, hb => by
    obtain ⟨B, o, h1, h2, h3⟩ := h
    obtain ⟨B', o', h4, h5⟩ := NdRow.right h3 hb
    cases h4
    refine ⟨B, o, h1, ?_⟩
    rw [List.length_cons, show o + (a.length + 1) * 4 = o + 4 + a.length * 4 by omega]
    exact h5
def bytesA (a : List Tk) : List ByteArray := a.map fun t => ⟨t.2.1.toArray⟩
theorem bytesA_join (a : List Tk) : (bytesA a).map (·.data.toList) = a.map fun t => t.2.1 := by
  unfold bytesA
  rw [List.map_map]
  exact List.map_congr_left fun t _ => by simp

set_option maxHeartbeats 4000000 in
set_option maxRecDepth 100000 in
theorem blanks_far (s t : ByteArray) (h : 8192 < s.size ∨ 8192 < t.size) (hs : s.size < 2 ^ 62) (ht : t.size < 2 ^ 62) (w : World) (hG : GlT w) :
    Calls Tryz.prog 9 #[.string s, .string t] w fun e w' => e = .returned (.bool true) ∧ Below w.heap.size w w' := by
  have c0 := works_any w hG
  have HG := Lib.hid hG
  clear hG
  by_cases h1 : 8192 < s.size
  · have Q : (8192 : Int) < (s.size : Int) := by omega
    clear h h1
    go_enter Tryz.func9, Tryz.ntmps9
    go_wp2_with fail
    refine c0.mono ?_
    clear c0
    rintro e w1 ⟨rfl, hb1⟩
    have c1 := works_any w1 (HG.out.below hb1)
    go_wp2_with fail
    refine c1.mono ?_
    clear c1
    rintro e w2 ⟨rfl, hb2⟩
    go_wp2_with fail
    go_ret
    exact ⟨rfl, tr hb1 hb2⟩
  · have Q : ¬ (8192 : Int) < (s.size : Int) := by omega
    have Q2 : (8192 : Int) < (t.size : Int) := by omega
    clear h h1
    go_enter Tryz.func9, Tryz.ntmps9
    go_wp2_with fail
    refine c0.mono ?_
    clear c0
    rintro e w1 ⟨rfl, hb1⟩
    have c1 := works_any w1 (HG.out.below hb1)
    go_wp2_with fail
    refine c1.mono ?_
    clear c1
    rintro e w2 ⟨rfl, hb2⟩
    go_wp2_with fail
    go_ret
    exact ⟨rfl, tr hb1 hb2⟩

set_option maxHeartbeats 8000000 in
set_option maxRecDepth 100000 in
theorem blanks_near (s t : ByteArray) (hs : s.size ≤ 8192) (ht : t.size ≤ 8192) (w : World) (hG : GlT w) :
    Calls Tryz.prog 9 #[.string s, .string t] w fun e w' => e = .returned (.bool true) ∧ Below w.heap.size w w' := by
  have c0 := works_any w hG
  have HG := Lib.hid hG
  have HS := Lib.hid hs
  have HT := Lib.hid ht
  have QS : ¬ (8192 : Int) < (s.size : Int) := by omega
  have QT : ¬ (8192 : Int) < (t.size : Int) := by omega
  obtain ⟨i0, hi, hz0, hz1, hz2⟩ := info_parts Tryz.infoStrB
  clear hG hs ht
  go_enter Tryz.func9, Tryz.ntmps9
  go_wp2_with fail
  refine c0.mono ?_
  clear c0
  rintro e w1 ⟨rfl, hb1⟩
  have HB1 := Lib.hid hb1
  have c1 := parse_any s w1 (HG.out.1.below hb1)
  obtain ⟨P, hP⟩ : ∃ P, parseR s.data.toList = P := ⟨_, rfl⟩
  obtain ⟨P', hP'⟩ : ∃ P, parseR t.data.toList = P := ⟨_, rfl⟩
  rw [hP] at c1
  have HP := Lib.hid hP
  have HP' := Lib.hid hP'
  clear hb1 hP hP'
  go_wp2_with fail
  refine c1.mono ?_
  clear c1
  cases P with
  | error f =>
    rintro e w2 ⟨hb2, b, hb, rfl, hf⟩
    have HB2 := Lib.hid (tr HB1.out hb2)
    have c2 := parse_any t w2 (HG.out.1.below HB2.out)
    rw [HP'.out] at c2
    clear hb2 hb hf
    go_wp2_with fail
    refine c2.mono ?_
    clear c2
    cases P' with
    | error f' =>
      rintro e w3 ⟨hb3, b', hb', rfl, hf'⟩
      have HB3 := Lib.hid (tr HB2.out hb3)
      clear hb3 hb' hf'
      go_wp2_with fail
      go_ret
      exact ⟨rfl, HB3.out⟩
    | ok l' =>
      rintro e w3 ⟨hb3, y', c', rfl, hrow', -⟩
      have HB3 := Lib.hid (tr HB2.out hb3)
      clear hb3 hrow'
      go_wp2_with fail
      go_ret
      exact ⟨rfl, HB3.out⟩
  | ok l =>
    rintro e w2 ⟨hb2, y, c, rfl, hrow, -⟩
    have HB2 := Lib.hid (tr HB1.out hb2)
    have HR := Lib.hid hrow
    have c2 := parse_any t w2 (HG.out.1.below HB2.out)
    rw [HP'.out] at c2
    obtain ⟨n, hn⟩ : ∃ n, l.length = n := ⟨_, rfl⟩
    have HN := Lib.hid hn
    rw [hn]
    clear hb2 hrow hn
    go_wp2_with fail
    refine c2.mono ?_
    clear c2
    cases P' with
    | error f' =>
      rintro e w3 ⟨hb3, b', hb', rfl, hf'⟩
      have HB3 := Lib.hid (tr HB2.out hb3)
      clear hb3 hb' hf'
      go_wp2_with fail
      go_ret
      exact ⟨rfl, HB3.out⟩
    | ok m =>
      rintro e w3 ⟨hb3, y', c', rfl, hrow', -⟩
      have HB3 := Lib.hid (tr HB2.out hb3)
      have HR3 := Lib.hid (HR.out.below hb3)
      have HR3' := Lib.hid hrow'
      obtain ⟨a, ha, hlo, hbo⟩ := blanks_law (by rw [← Lib.size_eq]; exact HS.out) (by rw [← Lib.size_eq]; exact HT.out) HP.out HP'.out
      have c3 := tokens_all s w3 (HG.out.1.below HB3.out)
      rw [ha] at c3
      have HA := Lib.hid ha
      have HLO := Lib.hid hlo
      have HBO := Lib.hid hbo
      obtain ⟨n', hn'⟩ : ∃ n, m.length = n := ⟨_, rfl⟩
      have HN' := Lib.hid hn'
      rw [hn']
      have hna : Hid (a.length ≤ 4096) := tokensL_len _ _ ha
      clear hb3 hrow' hn' ha hlo hbo
      go_wp2_with fail
      refine c3.mono ?_
      clear c3
      rintro e w4 ⟨hb4, v, rfl, hown⟩
      obtain ⟨x, cx, rfl⟩ := own_shape hown
      have HTR := Lib.hid (tokRow_own hown)
      have HB4 := Lib.hid (tr HB3.out hb4)
      have HR4 := Lib.hid (HR3.out.below hb4)
      have HR4' := Lib.hid (HR3'.out.below hb4)
      obtain ⟨k, hk⟩ : ∃ k, a.length = k := ⟨_, rfl⟩
      have HK := Lib.hid hk
      have hk4 : k ≤ 4096 := by rw [← hk]; exact hna.out
      rw [hk]
      clear hb4 hown hk hna
      go_wp2_with fail
      go_loopw [11, 56] (fun v i wx => ∃ j : Nat, i = .int .i64 j ∧ j ≤ k ∧ Below w4.heap.size w4 wx ∧ wx.ownsRow w4.heap.size 9 1 v j ((a.take j).map fun t => .string ⟨t.2.1.toArray⟩)) (fun _ i _ => k - (RowKit.intOf i).toNat)
      case atStart => exact ⟨0, rfl, Nat.zero_le _, Below.refl _ _, World.ownsRow_nil _ _ _ _⟩
      case round =>
        obtain ⟨j, rfl, hj, hb, hown⟩ := hrel
        by_cases hlt : j < k
        · obtain ⟨u, hu⟩ : ∃ u, a[j]? = some u := ⟨a[j]'(by have := HK.out; omega), List.getElem?_eq_getElem _⟩
          obtain ⟨g, rfl, k0, k1, k2⟩ := (HTR.out.below hb) j u hu
          have HM : Hid ((a.take (j + 1)).map (fun t => Value.string ⟨t.2.1.toArray⟩) = (a.take j).map (fun t => Value.string ⟨t.2.1.toArray⟩) ++ [.string ⟨u.2.1.toArray⟩]) := by
            show _ = _
            rw [List.take_add_one, hu]
            simp
          obtain ⟨va, vc, rfl⟩ := own_shape hown
          have hlt' : (j : Int) < (k : Int) := by omega
          clear hu
          go_wp2_with (at_builtin; refine wpList_append_own _ rfl (.tmp 60) (.tmp 63) 44 rfl (w4.heap.size) 9 i0 (.string ⟨#[]⟩) 1 16 Tryz.underlying44 hi hz0 hz1 hz2 rfl (by decide) _ _ _ rfl ((hown.alloc _).alloc _) ⟨wr.heap.size + 1, 0, none⟩ 1 1 [.string ⟨u.2.1.toArray⟩] rfl rfl (by simpa using cell_one_new (wr.alloc (.cells #[.int .i64 u.1, .string ⟨u.2.1.toArray⟩, .int .i64 u.2.2] 46)) _ _) (fun x hx => by simp at hx; rcases hx with rfl; rfl) (by unfold maxLen; omega) (by omega) (by have := hb.size; simp; omega) ?_; intro v' w5 hown' hgrow5 hnil5)
          have hbw5 : Below w4.heap.size w4 w5 := Below.grown ((hb.alloc hb.size _).alloc (by have := hb.size; simp; omega) _) hgrow5 (by have := hb.size; simp; omega) (fun j hj => (hown.lt _ hj).1)
          go_roundw
          case rel => exact ⟨j + 1, by go_num, by omega, hbw5, by rw [HM.out]; simpa using hown'⟩
          case measure => simp [RowKit.intOf]; omega
        · obtain rfl : j = k := by omega
          have hlt' : ¬ (j : Int) < (j : Int) := by omega
          have HR5 := Lib.hid (HR4.out.below hb)
          have HR5' := Lib.hid (HR4'.out.below hb)
          have HB5 := Lib.hid (tr HB4.out hb)
          have hal := HK.out
          rw [List.take_of_length_le (by omega)] at hown
          have hW : Lib.join ((bytesA a).map (·.data.toList)) sepW = Lib.join (a.map fun t => t.2.1) sepW := by rw [bytesA_join]
          have hll := loose_len HA.out (by rw [← Lib.size_eq]; exact HS.out)
          have hJl : (Lib.join (a.map fun t => t.2.1) sepW).length ≤ 57400 := by
            unfold looseT at hll
            simp only [List.length_append] at hll
            omega
          have cJ : Calls Tryz.prog 31 #[u11, .string ⟨#[32, 47, 47, 32, 109, 111, 114, 101, 32, 255, 10, 9]⟩] wr fun e w' => e = .returned (.string ⟨(Lib.join (a.map fun t => t.2.1) sepW).toArray⟩) ∧ Below wr.heap.size wr w' := by
            obtain ⟨va, vc, rfl⟩ := own_shape hown
            rcases Nat.eq_zero_or_pos j with h0 | h0
            · have : a = [] := List.length_eq_zero_iff.1 (by omega)
              subst this
              subst h0
              refine (Tryz.strings_Join_none va vc ⟨#[32, 47, 47, 32, 109, 111, 114, 101, 32, 255, 10, 9]⟩ wr).mono ?_
              rintro e w' ⟨rfl, rfl⟩
              exact ⟨rfl, Below.refl _ _⟩
            · obtain ⟨g, c', h1, h2, h3, h4⟩ := own_some hown h0
              cases h1
              have h := Tryz.strings_Join g 0 vc (bytesA a) ⟨#[32, 47, 47, 32, 109, 111, 114, 101, 32, 255, 10, 9]⟩ wr (fun i x hx => by
                unfold bytesA at hx
                rw [List.getElem?_map] at hx
                obtain ⟨u, hu, rfl⟩ := Option.map_eq_some_iff.1 hx
                have := h4 i (by have := (List.getElem?_eq_some_iff.1 hu).1; omega)
                simpa [hu] using this) h3 (by unfold bytesA; simp; omega) (by have := own_cap hown; unfold bytesA; simp; omega) (by
                  have e : (⟨#[32, 47, 47, 32, 109, 111, 114, 101, 32, 255, 10, 9]⟩ : ByteArray).data.toList = sepW := rfl
                  rw [e, hW]; omega)
              have e : (⟨#[32, 47, 47, 32, 109, 111, 114, 101, 32, 255, 10, 9]⟩ : ByteArray).data.toList = sepW := rfl
              have e2 : (bytesA a).length = j := by unfold bytesA; simp; omega
              rw [e, hW, e2] at h
              exact h
          obtain ⟨l', hl', hsl'⟩ := HLO.out
          have HL' := Lib.hid hl'
          have HSL' := Lib.hid hsl'
          obtain ⟨J, hJ⟩ : ∃ J, Lib.join (a.map fun t => t.2.1) sepW = J := ⟨_, rfl⟩
          obtain ⟨X, hX⟩ : ∃ X, looseT (a.map fun t => t.2.1) = X := ⟨_, rfl⟩
          have hXJ : X = beginsW ++ J ++ [13, 10] := by rw [← hX, ← hJ]; rfl
          rw [hJ] at cJ hJl
          have f1 : ∀ W, (Op.stringOp .add ⟨#[47, 47, 32, 98, 101, 103, 105, 110, 115, 10]⟩ ⟨J.toArray⟩).run Tryz.prog W = .ok (.string ⟨(beginsW ++ J).toArray⟩) W := cat_run beginsW J _ rfl (by unfold beginsW; simp; omega)
          have f2 : ∀ W, (Op.stringOp .add ⟨(beginsW ++ J).toArray⟩ ⟨#[13, 10]⟩).run Tryz.prog W = .ok (.string ⟨X.toArray⟩) W := cat_run (beginsW ++ J) [13, 10] _ hXJ (by unfold beginsW; simp; omega)
          obtain ⟨Y, hY⟩ : ∃ Y, beginsW ++ J = Y := ⟨_, rfl⟩
          rw [hY] at f1 f2
          have HX := Lib.hid hX
          clear hl' hsl' hW hll hal hown hb HTR HLO hXJ hJ hX hY hJl
          go_wp2_with fail
          refine cJ.mono ?_
          clear cJ
          rintro e w6 ⟨rfl, hb6⟩
          have HB6 := Lib.hid (tr HB5.out hb6)
          have HR6 := Lib.hid (HR5.out.below hb6)
          have HR6' := Lib.hid (HR5'.out.below hb6)
          have c7 := parse_any ⟨X.toArray⟩ w6 (HG.out.1.below HB6.out)
          rw [show (⟨X.toArray⟩ : ByteArray).data.toList = X by simp, show parseR X = .ok l' by rw [← HX.out]; exact HL'.out] at c7
          clear hb6
          go_wp2_with fail
          refine c7.mono ?_
          clear c7
          rintro e w7 ⟨hb7, y7, c7, rfl, hrow7, -⟩
          have HB7 := Lib.hid (tr HB6.out hb7)
          have HR7 := Lib.hid (HR6.out.below hb7)
          have HR7' := Lib.hid (HR6'.out.below hb7)
          have HL7 := Lib.hid hrow7
          obtain ⟨n7, hn7⟩ : ∃ n, l'.length = n := ⟨_, rfl⟩
          have HN7 := Lib.hid hn7
          rw [hn7]
          obtain ⟨S1, hS1⟩ : ∃ S, s.data.toList = S := ⟨_, rfl⟩
          obtain ⟨T1, hT1⟩ : ∃ S, t.data.toList = S := ⟨_, rfl⟩
          have es : s = ⟨S1.toArray⟩ := by rw [← hS1]
          have et : t = ⟨T1.toArray⟩ := by rw [← hT1]
          have hsz : S1.length ≤ 8192 := by rw [← hS1, ← Lib.size_eq]; exact HS.out
          have htz : T1.length ≤ 8192 := by rw [← hT1, ← Lib.size_eq]; exact HT.out
          have g1 : ∀ W, (Op.stringOp .add ⟨S1.toArray⟩ ⟨#[10]⟩).run Tryz.prog W = .ok (.string ⟨(S1 ++ [10]).toArray⟩) W := cat_run S1 [10] _ rfl (by simp; omega)
          have g2 : ∀ W, (Op.stringOp .add ⟨(S1 ++ [10]).toArray⟩ ⟨T1.toArray⟩).run Tryz.prog W = .ok (.string ⟨(S1 ++ 10 :: T1).toArray⟩) W := cat_run (S1 ++ [10]) T1 _ (by simp) (by simp; omega)
          have c8 := parse_any ⟨(S1 ++ 10 :: T1).toArray⟩ w7 (HG.out.1.below HB7.out)
          rw [show (⟨(S1 ++ 10 :: T1).toArray⟩ : ByteArray).data.toList = S1 ++ 10 :: T1 by simp] at c8
          have hbo := HBO.out
          rw [hS1, hT1] at hbo
          have hss : s.size = S1.length := by rw [← hS1]; exact Lib.size_eq s
          have hts : t.size = T1.length := by rw [← hT1]; exact Lib.size_eq t
          subst es et
          obtain ⟨Z, hZ⟩ : ∃ Z, S1 ++ 10 :: T1 = Z := ⟨_, rfl⟩
          obtain ⟨Z1, hZ1⟩ : ∃ Z, S1 ++ [10] = Z := ⟨_, rfl⟩
          rw [hZ] at g2 c8 hbo
          rw [hZ1] at g1 g2
          rcases hbo with ⟨cl, dl, hcd, hc, hd⟩ | ⟨⟨f, hf⟩, hbig⟩
          · rw [hcd] at c8
            have hpr := parse_right hcd
            have hpl := parse_right HP.out
            have hpm := parse_right HP'.out
            have HC := Lib.hid hc
            have HD := Lib.hid hd
            have hcn : cl.length = n := (sameL_len hc).trans HN.out
            have hdn : dl.length = n' := (sameL_len hd).trans HN'.out
            have HCN := Lib.hid hcn
            have HDN := Lib.hid hdn
            have hn40 : n < 2 ^ 40 := by have := len_wtL l; have := HN.out; omega
            have hn40' : n' < 2 ^ 40 := by have := len_wtL m; have := HN'.out; omega
            have HSZ : Hid (szL l < 2 ^ 40 ∧ szL cl < 2 ^ 40 ∧ szL dl < 2 ^ 40) := by
              have h1 := sz_wtL l
              have h2 := sz_wtL cl
              have h3 := sz_wtL dl
              have h4 := wtL_app cl dl
              exact ⟨by omega, by omega, by omega⟩
            obtain ⟨n8, hn8⟩ : ∃ n, (cl ++ dl).length = n := ⟨_, rfl⟩
            have hn8' : n8 = n + n' := by rw [← hn8, List.length_append, hcn, hdn]
            subst hn8'
            have HN8 := Lib.hid hn8
            clear hb7 hrow7 hn7 hcd hc hd hZ hZ1 hS1 hT1 hsz htz hss hts HBO hpr hpl hpm hcn hdn
            go_wp2_with fail
            refine c8.mono ?_
            clear c8
            rintro e w8 ⟨hb8, y8, c8, rfl, hrow8, hcap8⟩
            rw [hn8] at hcap8 ⊢
            have HB8 := Lib.hid (tr HB7.out hb8)
            have HR8 := Lib.hid (HR7.out.below hb8)
            have HR8' := Lib.hid (HR7'.out.below hb8)
            have HL8 := Lib.hid (HL7.out.below hb8)
            have HCD := Lib.hid hrow8
            have hs1 := same_any (fun _ => True) (szL l + 1) l l' (Nat.lt_succ_self _) HSZ.out.1 y y7 c c7 w8 (HR8.out.wide fun _ _ _ => trivial) (HL8.out.wide fun _ _ _ => trivial)
            rw [HSL'.out, HN.out, HN7.out] at hs1
            have Qs : IntKind.i64.wrap ((n : Int) + (n' : Int)) = (n : Int) + (n' : Int) := IntWalk.i64_in _ (by omega)
            have Qe : ((((n + n' : Nat) : Int)) == (n : Int) + (n' : Int)) = true := by simp
            have q1 : (n : Int) ≤ (c8 : Int) := by omega
            have q2 : n ≤ c8 := by omega
            have q3 : (n : Int) ≤ ((n + n' : Nat) : Int) := by omega
            clear hb8 hrow8 hn8
            go_wp2_with fail
            refine hs1.mono ?_
            clear hs1
            rintro e w9 ⟨rfl, hb9⟩
            have HB9 := Lib.hid (tr HB8.out hb9)
            have hs2 := same_any (fun _ => True) (szL cl + 1) cl l (Nat.lt_succ_self _) HSZ.out.2.1 y8 y c8 c w9 ((HCD.out.below hb9).left.wide fun _ _ _ => trivial) ((HR8.out.below hb9).wide fun _ _ _ => trivial)
            rw [HC.out, HN.out, HCN.out] at hs2
            have HR9' := Lib.hid (HR8'.out.below hb9)
            have HCD9 := Lib.hid (HCD.out.below hb9)
            clear hb9
            go_wp2_with fail
            refine hs2.mono ?_
            clear hs2
            rintro e w10 ⟨rfl, hb10⟩
            have HB10 := Lib.hid (tr HB9.out hb10)
            have HD10 := Lib.hid ((HCD9.out.below hb10).wide (ok' := fun _ => True) fun _ _ _ => trivial)
            have hR : NdRow w10 (fun _ => True) dl (Option.map (fun x => x.add (n * 4)) y8) := by
              by_cases h0 : dl = []
              · rw [h0]; trivial
              · obtain ⟨B, o, e1, h1⟩ := HD10.out.right h0
                rw [e1]
                rw [HCN.out] at h1
                show NdRow w10 (fun _ => True) dl (some ((⟨B, o, none⟩ : Addr).add (n * 4)))
                rw [Addr.add_lit]
                exact h1
            have hR0 : n' = 0 → ∀ Y, NdRow w10 (fun _ => True) dl Y := fun h0 Y => by
              have : dl = [] := List.length_eq_zero_iff.1 (by rw [HDN.out]; exact h0)
              rw [this]
              trivial
            have hs3 : ∀ Y C, NdRow w10 (fun _ => True) dl Y → Calls Tryz.prog 25 #[.slice Y n' C, .slice y' n' c'] w10 (Yes true w10) := fun Y C h => by
              have := same_any (fun _ => True) (szL dl + 1) dl m (Nat.lt_succ_self _) HSZ.out.2.2 Y y' C c' w10 h ((HR9'.out.below hb10).wide fun _ _ _ => trivial)
              rw [HD.out, HN'.out, HDN.out] at this
              exact this
            have H3 := Lib.hid hs3
            have HRR := Lib.hid hR
            have HR0 := Lib.hid hR0
            have HCAP := Lib.hid hcap8
            clear hb10 hR hR0 hs3
            go_wp2_with fail
            · have h4 := H3.out y8 0 (HR0.out (by have := HCAP.out; omega) _)
              refine h4.mono ?_
              rintro e w11 ⟨rfl, hb11⟩
              go_wp2_with fail
              go_ret
              exact ⟨rfl, tr HB10.out hb11⟩
            · have h4 := H3.out (Option.map (fun x => x.add (n * 4)) y8) (c8 - n) HRR.out
              refine h4.mono ?_
              rintro e w11 ⟨rfl, hb11⟩
              go_wp2_with fail
              go_ret
              exact ⟨rfl, tr HB10.out hb11⟩
          · rw [hf] at c8
            rw [HK.out] at hbig
            clear hb7 hrow7 hn7 hZ hZ1 hS1 hT1 HBO hf
            go_wp2_with fail
            refine c8.mono ?_
            clear c8
            rintro e w8 ⟨hb8, b8, hb8', rfl, hf8⟩
            have HB8 := Lib.hid (tr HB7.out hb8)
            clear hb8 hf8 hb8'
            have HBIG := Lib.hid hbig
            clear hbig
            go_wp2_with fail
            all_goals (
              go_ret
              refine ⟨?_, HB8.out⟩
              have := HBIG.out
              first | rfl | (simp; omega))
theorem treeBlanks_any (s t : ByteArray) (hs : s.size < 2 ^ 62) (ht : t.size < 2 ^ 62) (w : World) (hG : GlT w) :
    Calls Tryz.prog 9 #[.string s, .string t] w fun e w' => e = .returned (.bool true) ∧ Below w.heap.size w w' := by
  by_cases h : 8192 < s.size ∨ 8192 < t.size
  · exact blanks_far s t h hs ht w hG
  · exact blanks_near s t (by omega) (by omega) w hG
end Go.Proofs.YtpbkeamjdolpgaaGreatDoor
