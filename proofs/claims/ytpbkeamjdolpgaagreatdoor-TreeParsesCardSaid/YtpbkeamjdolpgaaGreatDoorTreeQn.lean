/- The reference's expressions and statements at any depth; the walk of its Parse. -/
import Derived.Test.YtpbkeamjdolpgaaGreatDoorTreeQk
import Derived.Test.YtpbkeamjdolpgaaGreatDoorTreeQm
import Derived.Test.YtpbkeamjdolpgaaGreatDoorB18
import Derived.Test.YtpbkeamjdolpgaaGreatDoorC08
namespace Go.Proofs.YtpbkeamjdolpgaaGreatDoor
open Go.RowKit Go.Lib Go.Shelf

theorem runary_all (C : Ctx) (ex : Nat → Res Nd) (hx : ROneQ C 87 ex) (f : Nat) (hf : f ≤ 8192) : ∀ gf, ROne C 181 (unaryL C.ts C.s.size ex f gf)
  | 0 => runary_step C ex hx f hf 0 (fun k hk => by omega)
  | g + 1 => runary_step C ex hx f hf (g + 1) (fun k hk => by
      obtain rfl : g = k := by omega
      exact runary_all C ex hx f hf g)
theorem rlev_any (C : Ctx) (ex : Nat → Res Nd) (hx : ROneQ C 87 ex) (f : Nat) (hf : f ≤ 8192) : ∀ d, d ≤ 5 → ∀ (k : Nat), k + d = 5 → ∀ w b p, RSt C w b p → Tot (levO C.ts C.s.size ex f d) b p ≠ .out → Calls Tryz.prog 143 #[.pointer (some ⟨C.pb, 0, none⟩), .int .i64 k] w (RFinN C w (levO C.ts C.s.size ex f d) b p)
  | 0, _, k, hk, w, b, p, h, hne => by
    obtain rfl : k = 5 := by omega
    exact rlevel5_any C ex f f (runary_all C ex hx f hf f) w b p h hne
  | d + 1, hd, k, hk, w, b, p, h, hne => by
    have e : levO C.ts C.s.size ex f (d + 1) = levelO C.ts C.s.size (levO C.ts C.s.size ex f d) k f := by
      rw [show k = 4 - d by omega]
      rfl
    rw [e] at hne ⊢
    exact rlevel_any C (levO C.ts C.s.size ex f d) k (by omega) f hf (fun w b p h1 h2 => by
      have := rlev_any C ex hx f hf d (by omega) (k + 1) (by omega) w b p h1 h2
      rwa [Int.natCast_add] at this) w b p h hne
theorem rexprP_any (C : Ctx) : ∀ f, f ≤ 8192 → ROneQ C 87 (exprP C.ts C.s.size f)
  | 0, _ => fun _ _ _ _ _ ⟨_, hq⟩ => absurd rfl hq
  | f + 1, hf => fun w b p h hne _ => rexpr_any C (exprP C.ts C.s.size f) (rexprP_any C f (by omega)) f (by omega) (fun w b p h1 h2 => rlev_any C _ (rexprP_any C f (by omega)) f (by omega) 5 (by omega) 0 (by omega) w b p h1 h2) w b p h hne
theorem rstmtP_any (C : Ctx) (hl : C.ts.length ≤ 4096) : ∀ f, ROneQ C 45 (stmtP C.ts C.s.size 8192 f)
  | 0 => fun _ _ _ _ _ ⟨_, hq⟩ => absurd rfl hq
  | f + 1 => fun w b p h hne _ => rstmt_any C (exprP C.ts C.s.size 8192) (stmtP C.ts C.s.size 8192 f) (rexprP_any C 8192 (by omega)) (rstmtP_any C hl f) 8192 (by omega) ⟨C.ts.length, (gd_expr (ts := C.ts) (L := C.s.size) 8192 C.ts.length (Nat.le_refl _) (by omega)).ne⟩ w b p h hne

def parseX (T : Except Flt (List Tk)) (L : Nat) : Except FlI (List Nd) := match T with
  | .error f => .error (f.1, (f.2.1 : Int), f.2.2)
  | .ok ts => parseT ts L
def parseS (ts : List Tk) (L : Nat) (R : Res (List Nd)) : Except FlI (List Nd) := match R with
  | .out => .error (270, 0, [])
  | .bad q => .error (270, (placeT ts L q : Int), textT ts q)
  | .ok l _ => match deepL l 1 with
    | some x => .error (3, x.pos, x.name)
    | none => .ok l
theorem parseT_eq (ts : List Tk) (L : Nat) : parseT ts L = parseS ts L (stmtsP ts L 8192 8192 [] 0) := rfl
theorem parseR_eq (s : List UInt8) : parseR s = parseX (tokensL s) s.length := rfl
/-- What the reference's Parse hands back. -/
def RParseEnd (R : Except FlI (List Nd)) (w : World) (e : Ending) (w' : World) : Prop :=
  Below w.heap.size w w' ∧ match R with
  | .ok l => ∃ y c, e = .returned (.tuple #[.slice y l.length c, .pointer none]) ∧ NdRow w' (fun b => w.heap.size ≤ b) l y
  | .error f => ∃ b, e = .returned (.tuple #[.slice none 0 0, .pointer (some ⟨b, 0, none⟩)]) ∧ w'.heap[b]? = some (.cells #[.int .i64 f.1, .int .i64 f.2.1, .string ⟨f.2.2.toArray⟩] 61 (0, 0))

set_option maxHeartbeats 4000000 in
set_option maxRecDepth 100000 in
theorem rparse_any (s : ByteArray) (w : World) (hG : Gl w) : Calls Tryz.prog 14 #[.string s] w (RParseEnd (parseR s.data.toList) w) := by
  have c0 := rtokens_all s w hG
  obtain ⟨T, hT⟩ : ∃ T, tokensL s.data.toList = T := ⟨_, rfl⟩
  rw [parseR_eq, hT, ← Lib.size_eq]
  rw [hT] at c0
  unfold RTokEnd at c0
  cases T with
  | error f =>
    clear hT hG
    dsimp only [parseX] at c0 ⊢
    go_enter Tryz.func14, Tryz.ntmps14
    go_wp2_with fail
    refine c0.mono ?_
    clear c0
    rintro e w1 ⟨hb1, g, hg, rfl, hf⟩
    have HB := Lib.hid hb1
    have HF := Lib.hid hf
    clear hb1 hf hg
    go_wp2_with fail
    refine bodyPost_ret (v := .tuple #[.slice none 0 0, .pointer (some ⟨g, 0, none⟩)]) (by simp [results, Tryz.results14, go_sem]) rfl ?_
    exact ⟨HB.out, g, rfl, HF.out⟩
  | ok ts =>
    have hlen := tokensL_len s.data.toList ts hT
    clear hT hG
    dsimp only [parseX] at c0 ⊢
    have HLEN := Lib.hid hlen
    obtain ⟨PE, hPE⟩ : ∃ PE, parseT ts s.size = PE := ⟨_, rfl⟩
    rw [hPE]
    rw [parseT_eq] at hPE
    obtain ⟨i0, hi0, hz0, hz1, hz2⟩ := info_parts Tryz.infoNode
    clear hlen
    go_enter Tryz.func14, Tryz.ntmps14
    go_wp2_with fail
    refine c0.mono ?_
    clear c0
    rintro e w1 ⟨hb1, v, rfl, hown⟩
    obtain ⟨x, c, rfl⟩ := own_shape hown
    have hs0 : RSt ⟨s, ts, x, c, w1.heap.size⟩ (w1.alloc (.cells #[.string s, .slice x ts.length c, .int .i64 0, .pointer none] 69)) false 0 := by
      refine ⟨⟨none, heap_alloc_new w1 _, fun _ => rfl, fun e => nomatch e⟩, (tokRow_own hown).below ((Below.refl _ _).alloc (Nat.le_refl _) _), ?_, Nat.zero_le _, HLEN.out⟩
      intro g hg
      have hx0 : x = some ⟨g, 0, none⟩ := hg
      have := (hown.lt g (by rw [hx0]; rfl)).2
      show g ≠ w1.heap.size
      omega
    have hB1 : Below w.heap.size w (w1.alloc (.cells #[.string s, .slice x ts.length c, .int .i64 0, .pointer none] 69)) := hb1.alloc hb1.size _
    have hne : stmtsP ts s.size 8192 8192 [] 0 ≠ .out := (gd_stmts (ts := ts) (L := s.size) (F := 8192) (by have := HLEN.out; omega) 8192 [] 0 (Nat.zero_le _) (by have := HLEN.out; omega)).ne
    obtain ⟨R, hR⟩ : ∃ R, stmtsP ts s.size 8192 8192 [] 0 = R := ⟨_, rfl⟩
    rw [hR] at hne
    have HNE := Lib.hid hne
    have HR := Lib.hid hR
    have HS0 := Lib.hid hs0
    have HB1 := Lib.hid hB1
    have HX := Lib.hid hs0.xlt
    have HPBL : Hid (w.heap.size ≤ w1.heap.size) := hb1.size
    obtain ⟨C, hC⟩ : ∃ C : Ctx, C = ⟨s, ts, x, c, w1.heap.size⟩ := ⟨_, rfl⟩
    have HC := Lib.hid hC
    have eTs : C.ts = ts := by rw [hC]
    have ePb : C.pb = w1.heap.size := by rw [hC]
    have eS : C.s = s := by rw [hC]
    have hs1 : RSt C (w1.alloc (.cells #[.string s, .slice x ts.length c, .int .i64 0, .pointer none] 69)) false 0 := by rw [hC]; exact hs0
    have hbs := (World.size_alloc w1 (.cells #[.string s, .slice x ts.length c, .int .i64 0, .pointer none] 69))
    rw [hR, ← eTs, ← eS] at hPE
    have HPE := Lib.hid hPE
    rw [← eTs, ← eS] at hR
    rw [← eTs] at HLEN
    have HRC := Lib.hid hR
    have HS1 := Lib.hid hs1
    have HTS := Lib.hid eTs
    have HPB := Lib.hid ePb
    have HSS := Lib.hid eS
    clear hown hs0 hB1 hne hR hb1 hC eTs eS hs1 HC HR HS0 HX ePb hPE
    go_upto_region 5 with (fail)
    have HWS : Hid ((w1.alloc (.cells #[.string s, .slice x ts.length c, .int .i64 0, .pointer none] 69)).heap.size = w1.heap.size + 1) := hbs
    clear hbs
    generalize World.alloc w1 (.cells #[.string s, .slice x ts.length c, .int .i64 0, .pointer none] 69) = W at HB1 HS1 HWS ⊢
    rw [← HPB.out] at HWS HPBL ⊢
    go_wp2_with fail
    go_loopg [7] 8192 (fun g v wx => ∃ (acc : List Nd) (b : Bool) (q f0 : Nat), RowOwn wx (C.pb + 1) v acc ∧ RSt C wx b q ∧ Ow C.pb W wx ∧ Hid (R = Tot (stmtsP C.ts C.s.size 8192 f0 acc) b q) ∧ acc.length + g ≤ 8192 ∧ f0 ≤ g)
    case atStart => exact ⟨[], false, 0, 8192, RowOwn.nil _ _, HS1.out, Ow.refl _ _, Lib.hid HRC.out.symm, by simp, Nat.le_refl _⟩
    case round =>
      obtain ⟨acc, b, q, f0, hrow, hs, ho, hS, hlen, hf0⟩ := hrel
      obtain ⟨va, vc, rfl, hca, -⟩ := hrow.shape
      have HROW := Lib.hid hrow
      have HS := Lib.hid hs
      have HO := Lib.hid ho
      have hwz := ho.size
      have hl4 := HLEN.out
      have hxl : ∀ (g i : Nat) (u : Tk), C.ts[i]? = some u → C.x = some ⟨g, 0, none⟩ → g < C.pb + 1 := fun g i u h1 h2 => by
        have := HS1.out.xlt g i u h1 h2
        have := HWS.out
        omega
      have HXL := Lib.hid hxl
      clear hrow hs ho hxl
      have hout : ∀ (a b : World), RSt C a true q → b.heap = a.heap → True := fun _ _ _ _ => trivial
      clear hout
      cases b
      · obtain ⟨c0, c1, c2, c3, -⟩ := HS.out.cellsF
        have hql := HS.out.le
        by_cases hq : q < C.ts.length
        · obtain ⟨f1, rfl⟩ : ∃ f1, f0 = f1 + 1 := by
            cases f0 with
            | zero => exact absurd hS.out HNE.out
            | succ f1 => exact ⟨f1, rfl⟩
          have HS2 : Hid (R = (Tot (stmtP C.ts C.s.size 8192 8192) false q).bind fun x r => stmtsP C.ts C.s.size 8192 f1 (acc ++ [x]) r) := by
            show R = _
            rw [hS.out, tot_go, stmtsP_step hq]
            rfl
          obtain ⟨n, hn⟩ : ∃ n, C.ts.length = n := ⟨_, rfl⟩
          rw [hn] at c1 hq hql hl4
          have Q : decide ((q : Int) < (n : Int)) = true := by simp; omega
          have HNn := Lib.hid hn
          clear hn hS
          go_upto_region 6 with (fail)
          go_quiet (fail)
          have HS3 : Hid (RSt C (wr.drewN nq) false q) := Lib.hid (HS.out.below (bdn (Below.refl _ _) _))
          have HR3 : Hid (RowOwn (wr.drewN nq) (C.pb + 1) (.slice va acc.length vc) acc) := Lib.hid (HROW.out.below (bdn (Below.refl _ _) _))
          have HO3 : Hid (Ow C.pb W (wr.drewN nq)) := Lib.hid (HO.out.drewN _)
          have hw3 : W.heap.size ≤ (wr.drewN nq).heap.size := HO3.out.size
          clear c0 c1 c2 c3 HS HROW HO hwz
          generalize World.drewN wr nq = w3 at HS3 HR3 HO3 hw3 ⊢
          have cs := rstmtP_any C HLEN.out 8192 w3 false q HS3.out (fun e => HNE.out (by rw [HS2.out, e]; rfl)) ⟨q, fun e => HNE.out (by rw [HS2.out, tot_go, e]; rfl)⟩
          unfold RFinN at cs
          have HLT : Hid (∀ j, (Value.slice va acc.length vc).ownBlock = some j → j < w3.heap.size) := by
            obtain ⟨xs0, h1, _⟩ := HR3.out
            exact fun j hj => (h1.lt j hj).2
          go_wp2_with fail
          refine cs.mono ?_
          clear cs
          rintro e3 w5 ⟨b5, q5, k, nm, kids, pp, y, cp, hM5, rfl, hk5, hs5, ho5⟩
          have HM5 := Lib.hid hM5
          have HK5 := Lib.hid hk5
          have HS5 := Lib.hid hs5
          have HO5 := Lib.hid (HO3.out.trans ho5)
          have HR5 := Lib.hid (HR3.out.ow ho5 (Nat.lt_succ_self _))
          have hw5 : w3.heap.size ≤ w5.heap.size := ho5.size
          have hpw : C.pb + 1 ≤ w3.heap.size := HS3.out.lt
          clear hM5 hk5 hs5 ho5 HR3
          go_wp2_with (at_builtin; refine Hold.out ?_)
          refine Hold.put ?_
          obtain ⟨xs, hown, hfl⟩ := HR5.out
          refine wpList_append_fresh _ rfl (.tmp 42) (.tmp 44) 22 rfl (C.pb + 1) 53 i0 (.agg #[.int .i64 0, .string ⟨#[]⟩, .slice none 0 0, .int .i64 0]) 4 56 Tryz.underlying22 hi0 hz0 hz1 hz2 rfl (by decide) _ _ _ rfl ((hown.alloc _).alloc _) ⟨w5.heap.size + 1, 0, none⟩ 1 1 [.int .i64 k, .string ⟨nm.toArray⟩, .slice y kids.length cp, .int .i64 pp] rfl rfl (by rw [show (w5.heap.size + 1) = (w5.alloc (.cells #[.int .i64 k, .string ⟨nm.toArray⟩, .slice y kids.length cp, .int .i64 pp] 53)).heap.size by simp]; exact cell_four_new _ _ _ _ _ _) (fun x hx => by simp at hx; rcases hx with rfl | rfl | rfl | rfl <;> rfl) (by unfold maxLen; omega) (by omega) (by simp; omega) ?_
          intro v' w6 hown' hgrow hfresh
          obtain ⟨h1, h2, h3⟩ := app_step (w := W) (S := w3.heap.size) HXL.out (Nat.lt_succ_self _) HS5.out HO5.out (Nat.le_of_eq HWS.out) (((Below.refl _ _).alloc (Nat.le_refl _) _).alloc (by simp) _) hown hfl HK5.out HLT.out hpw hown' hgrow hfresh
          have H1 := Lib.hid h1
          have H2 := Lib.hid h2
          have H3 := Lib.hid h3
          have HS4 : Hid (R = Tot (stmtsP C.ts C.s.size 8192 f1 (acc ++ [.mk k nm kids pp])) b5 q5) := by
            show R = _
            rw [HS2.out, HM5.out.bind]
          clear h1 h2 h3 hown hfl hown' hgrow hfresh
          go_wp2_with fail
          go_roundg (gk - 1)
          case measure => omega
          case rel => exact ⟨acc ++ [.mk k nm kids pp], b5, q5, f1, H2.out, H1.out, H3.out, HS4, by simp; omega, by omega⟩
        · -- all tokens are through
          obtain ⟨f1, rfl⟩ : ∃ f1, f0 = f1 + 1 := by
            cases f0 with
            | zero => exact absurd hS.out HNE.out
            | succ f1 => exact ⟨f1, rfl⟩
          have HS2 : Hid (R = .ok acc q) := by
            show R = _
            rw [hS.out, tot_go, stmtsP_end hq]
          have hsz : szL acc ≤ C.ts.length := parse_sz (F := 8192) (f := 8192) (L := C.s.size) (r := q) (by omega) (by omega) (HRC.out.trans HS2.out)
          have HPE2 : Hid (PE = match deepL acc 1 with
              | some x => .error (3, x.pos, x.name)
              | none => .ok acc) := by
            show PE = _
            rw [← HPE.out, HS2.out]
            rfl
          obtain ⟨n, hn⟩ : ∃ n, C.ts.length = n := ⟨_, rfl⟩
          rw [hn] at c1 hq hql hl4 hsz
          have Q : decide ((q : Int) < (n : Int)) = false := by simp; omega
          clear hn hS
          go_upto_region 6 with (fail)
          go_quiet (fail)
          have HS3 : Hid (RSt C (wr.drewN nq) false q) := Lib.hid (HS.out.below (bdn (Below.refl _ _) _))
          have HR3 : Hid (RowOwn (wr.drewN nq) (C.pb + 1) (.slice va acc.length vc) acc) := Lib.hid (HROW.out.below (bdn (Below.refl _ _) _))
          have HO3 : Hid (Ow C.pb W (wr.drewN nq)) := Lib.hid (HO.out.drewN _)
          have hw3 : W.heap.size ≤ (wr.drewN nq).heap.size := HO3.out.size
          clear c0 c1 c2 c3 HS HROW HO hwz
          generalize World.drewN wr nq = w3 at HS3 HR3 HO3 hw3 ⊢
          have HBE : Hid (Below w.heap.size w w3) := by
            refine HB1.out.trans (HO3.out.toBelow HPBL.out ?_)
            have := HB1.out.size
            exact this
          have hrow3 : NdRow w3 (fun j => j < w3.heap.size) acc va := by
            obtain ⟨a, c', e, _, h⟩ := HR3.out.shape
            cases e
            exact h.wide fun k _ hk => hk
          have HRW : Hid (NdRow w3 (fun j => w.heap.size ≤ j) acc va) := by
            obtain ⟨a, c', e, _, h⟩ := HR3.out.shape
            cases e
            exact h.wide fun k hk _ => by have := HPBL.out; omega
          have hll := len_szL acc
          have cd : Calls Tryz.prog 46 #[.slice va acc.length vc, .int .i64 1] w3 (RDeepEnd (fun k => k < w3.heap.size) (deepL acc 1) w3) := rdeep_any w3.heap.size (szL acc + 1) acc (Nat.lt_succ_self _) (by omega) 1 (by omega) va vc w3 (Nat.le_refl _) hrow3
          obtain ⟨-, -, -, c3, -⟩ := HS3.out.cellsF
          clear hrow3 hll hsz
          obtain ⟨D, hD⟩ : ∃ D, deepL acc 1 = D := ⟨_, rfl⟩
          rw [hD] at cd
          have HD := Lib.hid hD
          clear hD
          go_wp2_with fail
          refine cd.mono ?_
          clear cd c3
          rintro e4 w4 ⟨hb4, ⟨hr, rfl⟩ | ⟨x4, v4, hr, rfl, hv4⟩⟩
          · have HPE3 : Hid (PE = .ok acc) := by
              show PE = _
              rw [HPE2.out, HD.out, hr]
            have HB4 := Lib.hid hb4
            have HRW4 := Lib.hid (HRW.out.below hb4)
            clear hr hb4
            go_wp2_with fail
            refine bodyPost_ret (v := .tuple #[.slice va acc.length vc, .pointer none]) (by simp [results, Tryz.results14, go_sem]) rfl ?_
            rw [HPE3.out]
            exact ⟨(tr HBE.out HB4.out).alloc (tr HBE.out HB4.out).size _, va, vc, rfl, HRW4.out.alloc _⟩
          · obtain ⟨k4, n4, m4, p4⟩ := x4
            obtain ⟨y4, c4, rfl, _⟩ := hv4
            have HPE3 : Hid (PE = .error (3, p4, n4)) := by
              show PE = _
              rw [HPE2.out, HD.out, hr]
              rfl
            have HB4 := Lib.hid hb4
            clear hr hb4
            go_upto_region 13 with (fail)
            have B9 := Lib.hid (Box4.new w4 (.int .i64 k4) (.string ⟨n4.toArray⟩) (.slice y4 m4.length c4) (.int .i64 p4))
            have HB9 := Lib.hid ((tr HBE.out HB4.out).alloc (tr HBE.out HB4.out).size (.cells #[.int .i64 k4, .string ⟨n4.toArray⟩, .slice y4 m4.length c4, .int .i64 p4] 53))
            generalize World.alloc w4 (.cells #[.int .i64 k4, .string ⟨n4.toArray⟩, .slice y4 m4.length c4, .int .i64 p4] 53) = w9 at B9 HB9 ⊢
            obtain ⟨z0, z1, z2, z3, zf⟩ := B9.out.facts
            go_region
            all_goals go_wp2_with fail
            refine bodyPost_ret (v := .tuple #[.slice none 0 0, .pointer (some ⟨w9.heap.size, 0, none⟩)]) (by simp [results, Tryz.results14, go_sem]) rfl ?_
            rw [HPE3.out]
            exact ⟨Below.drew (HB9.out.alloc HB9.out.size _), w9.heap.size, rfl, heap_alloc_new w9 _⟩
      · -- a fault has been told
        have HS2 : Hid (R = .bad q) := hS
        have HPE2 : Hid (PE = .error (270, (placeT C.ts C.s.size q : Int), textT C.ts q)) := by
          show PE = _
          rw [← HPE.out, HS2.out]
          rfl
        obtain ⟨a, hb1, -, hb3⟩ := HS.out.blk
        obtain ⟨g, rfl, hgn, hf⟩ := hb3 rfl
        obtain ⟨c0, c1, c2⟩ := HS.out.cells
        have c3 : wr.cell? ⟨C.pb, 3, none⟩ = some (.pointer (some ⟨g, 0, none⟩)) := by simp [World.cell?, hb1]
        have HF := Lib.hid hf
        obtain ⟨n, hn⟩ : ∃ n, C.ts.length = n := ⟨_, rfl⟩
        rw [hn] at c1 hl4
        have hql := HS.out.le
        rw [hn] at hql
        have HBE : Hid (Below w.heap.size w wr) := by
          refine HB1.out.trans (HO.out.toBelow HPBL.out ?_)
          have := HB1.out.size
          exact this
        clear hb1 hb3 hf hn hS
        by_cases hq : q < n
        · have Q : decide ((q : Int) < (n : Int)) = true := by simp; omega
          go_upto_region 6 with (fail)
          go_quiet (fail)
          go_wp2_with fail
          go_quiet (fail)
          go_wp2_with fail
          refine bodyPost_ret (v := .tuple #[.slice none 0 0, .pointer (some ⟨g, 0, none⟩)]) (by simp [results, Tryz.results14, go_sem]) rfl ?_
          rw [HPE2.out]
          exact ⟨bdn (bdn HBE.out _) _, g, rfl, HF.out⟩
        · have Q : decide ((q : Int) < (n : Int)) = false := by simp; omega
          go_upto_region 6 with (fail)
          go_quiet (fail)
          go_wp2_with fail
          go_quiet (fail)
          go_wp2_with fail
          refine bodyPost_ret (v := .tuple #[.slice none 0 0, .pointer (some ⟨g, 0, none⟩)]) (by simp [results, Tryz.results14, go_sem]) rfl ?_
          rw [HPE2.out]
          exact ⟨bdn (bdn HBE.out _) _, g, rfl, HF.out⟩
end Go.Proofs.YtpbkeamjdolpgaaGreatDoor
