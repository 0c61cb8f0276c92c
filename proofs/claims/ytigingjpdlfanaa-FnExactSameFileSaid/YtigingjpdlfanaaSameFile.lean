/-
  Files are equal: program and reference say the same.
-/
import Derived.Test.YtigingjpdlfanaaSameL
namespace Go.Proofs.Ytigingjpdlfanaa
set_option linter.unusedSimpArgs false
set_option linter.unusedVariables false
set_option maxRecDepth 20000
open Go.RowKit
open Go.ChangeShapes Go.WideShapes Go.Deep Go.Joins

theorem file_eq {f g : Fl} : filePl f = filePl g ↔ f.ch.l = g.ch.l ∧ f.no.l = g.no.l ∧ rl2 f.st.l = rl2 g.st.l := by
  constructor
  · intro h
    refine ⟨congrArg FlP.ch h, congrArg FlP.no h, ?_⟩
    have h1 : stK.pl f.st = stK.pl g.st := congrArg FlP.st h
    rwa [rl2_pl, rl2_pl] at h1
  · rintro ⟨h1, h2, h3⟩
    show FlP.mk _ _ _ = FlP.mk _ _ _
    rw [h1, h2, rl2_pl, rl2_pl, h3]
theorem rows_sz {f : Fl} (h : FileSz f) : ∀ r ∈ f.st.l, r.l.length ≤ 1048576 ∧ ∀ q ∈ r.l, q.l.length ≤ 1048576 := fun r hr => ⟨(h.rows r hr).1, (h.rows r hr).2.1⟩

set_option maxHeartbeats 8000000 in
theorem iSameFile_any (f g : Fl) (v : Bool) (w : World) (hv : Is v (filePl f = filePl g)) (hf : FileRd w f) (hg : FileRd w g) (hs : FileSz f) (ht : FileSz g) :
    Calls Try.prog 23 #[.agg #[.slice f.ch.A f.ch.l.length f.ch.c, .slice f.st.A f.st.l.length f.st.c, .slice f.no.A f.no.l.length f.no.c], .agg #[.slice g.ch.A g.ch.l.length g.ch.c, .slice g.st.A g.st.l.length g.st.c, .slice g.no.A g.no.l.length g.no.c]] w fun e w' => e = .returned (.bool v) ∧ Below w.heap.size w w' := by
  have hv2 : Is v (f.ch.l = g.ch.l ∧ f.no.l = g.no.l ∧ rl2 f.st.l = rl2 g.st.l) := hv.trans file_eq
  have HK1 : Hid (Bk ((w.alloc (.cells #[.slice f.ch.A f.ch.l.length f.ch.c, .slice f.st.A f.st.l.length f.st.c, .slice f.no.A f.no.l.length f.no.c] 30)).alloc (.cells #[.slice g.ch.A g.ch.l.length g.ch.c, .slice g.st.A g.st.l.length g.st.c, .slice g.no.A g.no.l.length g.no.c] 30)) w.heap.size 30 #[.slice f.ch.A f.ch.l.length f.ch.c, .slice f.st.A f.st.l.length f.st.c, .slice f.no.A f.no.l.length f.no.c]) := (Bk.new w _ _).alloc _
  have HK2 : Hid (Bk ((w.alloc (.cells #[.slice f.ch.A f.ch.l.length f.ch.c, .slice f.st.A f.st.l.length f.st.c, .slice f.no.A f.no.l.length f.no.c] 30)).alloc (.cells #[.slice g.ch.A g.ch.l.length g.ch.c, .slice g.st.A g.st.l.length g.st.c, .slice g.no.A g.no.l.length g.no.c] 30)) (w.heap.size + 1) 30 #[.slice g.ch.A g.ch.l.length g.ch.c, .slice g.st.A g.st.l.length g.st.c, .slice g.no.A g.no.l.length g.no.c]) := Bk.new1 w _ _ _
  have hWa : Below w.heap.size w ((w.alloc (.cells #[.slice f.ch.A f.ch.l.length f.ch.c, .slice f.st.A f.st.l.length f.st.c, .slice f.no.A f.no.l.length f.no.c] 30)).alloc (.cells #[.slice g.ch.A g.ch.l.length g.ch.c, .slice g.st.A g.st.l.length g.st.c, .slice g.no.A g.no.l.length g.no.c] 30)) := by go_grown
  have HF := Lib.hid (hf.below hWa)
  have HG := Lib.hid (hg.below hWa)
  have HW := Lib.hid hWa
  obtain ⟨v1, hv1⟩ := bool_of (f.ch.l = g.ch.l)
  obtain ⟨v2, hv3⟩ := bool_of (f.no.l = g.no.l)
  obtain ⟨v3, hv4⟩ := bool_of (rl2 f.st.l = rl2 g.st.l)
  have H1 : Is v1 (f.ch.l = g.ch.l) := hv1
  have H2 : Is v2 (f.no.l = g.no.l) := hv3
  have H3 : Is v3 (rl2 f.st.l = rl2 g.st.l) := hv4
  clear hf hg hWa hv hv1 hv3 hv4
  cases v1
  · go_enter Try.func23, Try.ntmps23
    go_wp2_with fail
    refine (equalChs_any f.ch.A g.ch.A _ _ f.ch.c g.ch.c f.ch.l g.ch.l _ _ H1 HF.out.ch.1 HG.out.ch.1 rfl rfl hs.ch ht.ch).mono ?_
    rintro e w1 ⟨rfl, hb1⟩
    have hW1 : Below w.heap.size w w1 := Below.next HW.out hb1
    have HK1_1 := Lib.hid (HK1.out.next hb1)
    have HK2_1 := Lib.hid (HK2.out.next hb1)
    have HF1 := Lib.hid (HF.out.below hb1)
    have HG1 := Lib.hid (HG.out.below hb1)
    have x1 := HK1_1.out.cell 2
    have x2 := HK2_1.out.cell 2
    have y1 := HK1_1.out.lt
    have y2 := HK2_1.out.lt
    clear hb1
    go_wp2_with fail
    go_ret
    exact ⟨ret_bool (no_of hv2 fun h => absurd (H1.2 h.1) (by simp)).symm, hW1⟩
  · cases v2
    · go_enter Try.func23, Try.ntmps23
      go_wp2_with fail
      refine (equalChs_any f.ch.A g.ch.A _ _ f.ch.c g.ch.c f.ch.l g.ch.l _ _ H1 HF.out.ch.1 HG.out.ch.1 rfl rfl hs.ch ht.ch).mono ?_
      rintro e w1 ⟨rfl, hb1⟩
      have hW1 : Below w.heap.size w w1 := Below.next HW.out hb1
      have HK1_1 := Lib.hid (HK1.out.next hb1)
      have HK2_1 := Lib.hid (HK2.out.next hb1)
      have HF1 := Lib.hid (HF.out.below hb1)
      have HG1 := Lib.hid (HG.out.below hb1)
      have x1 := HK1_1.out.cell 2
      have x2 := HK2_1.out.cell 2
      have y1 := HK1_1.out.lt
      have y2 := HK2_1.out.lt
      clear hb1
      go_wp2_with fail
      refine (equalNos_any f.no.A g.no.A _ _ f.no.c g.no.c f.no.l g.no.l _ _ H2 HF1.out.no.1 HG1.out.no.1 rfl rfl hs.no ht.no).mono ?_
      rintro e w2 ⟨rfl, hb2⟩
      have hW2 : Below w.heap.size w w2 := Below.next hW1 hb2
      have HK1_2 := Lib.hid (HK1_1.out.next hb2)
      have HK2_2 := Lib.hid (HK2_1.out.next hb2)
      have HF2 := Lib.hid (HF1.out.below hb2)
      have HG2 := Lib.hid (HG1.out.below hb2)
      clear x1 x2 y1 y2
      have x1 := HK1_2.out.cell 1
      have x2 := HK2_2.out.cell 1
      have y1 := HK1_2.out.lt
      have y2 := HK2_2.out.lt
      clear hb2
      go_wp2_with fail
      go_ret
      exact ⟨ret_bool (no_of hv2 fun h => absurd (H2.2 h.2.1) (by simp)).symm, hW2⟩
    · cases v3
      · go_enter Try.func23, Try.ntmps23
        go_wp2_with fail
        refine (equalChs_any f.ch.A g.ch.A _ _ f.ch.c g.ch.c f.ch.l g.ch.l _ _ H1 HF.out.ch.1 HG.out.ch.1 rfl rfl hs.ch ht.ch).mono ?_
        rintro e w1 ⟨rfl, hb1⟩
        have hW1 : Below w.heap.size w w1 := Below.next HW.out hb1
        have HK1_1 := Lib.hid (HK1.out.next hb1)
        have HK2_1 := Lib.hid (HK2.out.next hb1)
        have HF1 := Lib.hid (HF.out.below hb1)
        have HG1 := Lib.hid (HG.out.below hb1)
        have x1 := HK1_1.out.cell 2
        have x2 := HK2_1.out.cell 2
        have y1 := HK1_1.out.lt
        have y2 := HK2_1.out.lt
        clear hb1
        go_wp2_with fail
        refine (equalNos_any f.no.A g.no.A _ _ f.no.c g.no.c f.no.l g.no.l _ _ H2 HF1.out.no.1 HG1.out.no.1 rfl rfl hs.no ht.no).mono ?_
        rintro e w2 ⟨rfl, hb2⟩
        have hW2 : Below w.heap.size w w2 := Below.next hW1 hb2
        have HK1_2 := Lib.hid (HK1_1.out.next hb2)
        have HK2_2 := Lib.hid (HK2_1.out.next hb2)
        have HF2 := Lib.hid (HF1.out.below hb2)
        have HG2 := Lib.hid (HG1.out.below hb2)
        clear x1 x2 y1 y2
        have x1 := HK1_2.out.cell 1
        have x2 := HK2_2.out.cell 1
        have y1 := HK1_2.out.lt
        have y2 := HK2_2.out.lt
        clear hb2
        go_wp2_with fail
        refine (equalStrokes_any f.st.A g.st.A _ _ f.st.c g.st.c f.st.l g.st.l _ _ H3 HF2.out.st HG2.out.st rfl rfl (rows_sz hs) (rows_sz ht) hs.st ht.st).mono ?_
        rintro e w3 ⟨rfl, hb3⟩
        have hW3 : Below w.heap.size w w3 := Below.next hW2 hb3
        have HK1_3 := Lib.hid (HK1_2.out.next hb3)
        have HK2_3 := Lib.hid (HK2_2.out.next hb3)
        have HF3 := Lib.hid (HF2.out.below hb3)
        have HG3 := Lib.hid (HG2.out.below hb3)
        clear x1 x2 y1 y2
        have x1 := HK1_3.out.cell 0
        have x2 := HK2_3.out.cell 0
        have y1 := HK1_3.out.lt
        have y2 := HK2_3.out.lt
        clear hb3
        go_wp2_with fail
        go_ret
        exact ⟨ret_bool (no_of hv2 fun h => absurd (H3.2 h.2.2) (by simp)).symm, hW3⟩
      · go_enter Try.func23, Try.ntmps23
        go_wp2_with fail
        refine (equalChs_any f.ch.A g.ch.A _ _ f.ch.c g.ch.c f.ch.l g.ch.l _ _ H1 HF.out.ch.1 HG.out.ch.1 rfl rfl hs.ch ht.ch).mono ?_
        rintro e w1 ⟨rfl, hb1⟩
        have hW1 : Below w.heap.size w w1 := Below.next HW.out hb1
        have HK1_1 := Lib.hid (HK1.out.next hb1)
        have HK2_1 := Lib.hid (HK2.out.next hb1)
        have HF1 := Lib.hid (HF.out.below hb1)
        have HG1 := Lib.hid (HG.out.below hb1)
        have x1 := HK1_1.out.cell 2
        have x2 := HK2_1.out.cell 2
        have y1 := HK1_1.out.lt
        have y2 := HK2_1.out.lt
        clear hb1
        go_wp2_with fail
        refine (equalNos_any f.no.A g.no.A _ _ f.no.c g.no.c f.no.l g.no.l _ _ H2 HF1.out.no.1 HG1.out.no.1 rfl rfl hs.no ht.no).mono ?_
        rintro e w2 ⟨rfl, hb2⟩
        have hW2 : Below w.heap.size w w2 := Below.next hW1 hb2
        have HK1_2 := Lib.hid (HK1_1.out.next hb2)
        have HK2_2 := Lib.hid (HK2_1.out.next hb2)
        have HF2 := Lib.hid (HF1.out.below hb2)
        have HG2 := Lib.hid (HG1.out.below hb2)
        clear x1 x2 y1 y2
        have x1 := HK1_2.out.cell 1
        have x2 := HK2_2.out.cell 1
        have y1 := HK1_2.out.lt
        have y2 := HK2_2.out.lt
        clear hb2
        go_wp2_with fail
        refine (equalStrokes_any f.st.A g.st.A _ _ f.st.c g.st.c f.st.l g.st.l _ _ H3 HF2.out.st HG2.out.st rfl rfl (rows_sz hs) (rows_sz ht) hs.st ht.st).mono ?_
        rintro e w3 ⟨rfl, hb3⟩
        have hW3 : Below w.heap.size w w3 := Below.next hW2 hb3
        have HK1_3 := Lib.hid (HK1_2.out.next hb3)
        have HK2_3 := Lib.hid (HK2_2.out.next hb3)
        have HF3 := Lib.hid (HF2.out.below hb3)
        have HG3 := Lib.hid (HG2.out.below hb3)
        clear x1 x2 y1 y2
        have x1 := HK1_3.out.cell 0
        have x2 := HK2_3.out.cell 0
        have y1 := HK1_3.out.lt
        have y2 := HK2_3.out.lt
        clear hb3
        go_wp2_with fail
        go_ret
        exact ⟨ret_bool (hv2.2 ⟨H1.1 rfl, H2.1 rfl, H3.1 rfl⟩).symm, hW3⟩

set_option maxHeartbeats 16000000 in
theorem l03Same_any (b1 b2 : Nat) (A1 : Option Addr) (n1 c1 : Nat) (cs : List Ch) (A2 : Option Addr) (n2 c2 : Nat) (ss : List (Sl (Sl Int))) (A3 : Option Addr) (n3 c3 : Nat) (ns : List No) (B1 : Option Addr) (m1 d1 : Nat) (ct : List Ch) (B2 : Option Addr) (m2 d2 : Nat) (st : List (Sl (Sl Int))) (B3 : Option Addr) (m3 d3 : Nat) (nt : List No) (v : Bool) (w : World) (hv : Is v (cs = ct ∧ ns = nt ∧ rl2 ss = rl2 st)) (q0 : w.cell? ⟨b1, 0, none⟩ = some (.slice A1 n1 c1)) (p0 : w.cell? ⟨b2, 0, none⟩ = some (.slice B1 m1 d1)) (q1 : w.cell? ⟨b1, 1, none⟩ = some (.slice A2 n2 c2)) (p1 : w.cell? ⟨b2, 1, none⟩ = some (.slice B2 m2 d2)) (q2 : w.cell? ⟨b1, 2, none⟩ = some (.slice A3 n3 c3)) (p2 : w.cell? ⟨b2, 2, none⟩ = some (.slice B3 m3 d3)) (ra : Rd w A1 n1 4 (rowOf chC cs)) (rb : stK.rd w ⟨A2, c2, ss⟩) (rc : Rd w A3 n3 3 (rowOf noC ns)) (sa : Rd w B1 m1 4 (rowOf chC ct)) (sb : stK.rd w ⟨B2, d2, st⟩) (sc : Rd w B3 m3 3 (rowOf noC nt)) (la : cs.length = n1) (lb : ss.length = n2) (lc : ns.length = n3) (ma : ct.length = m1) (mb : st.length = m2) (mc : nt.length = m3) (z1 : n1 ≤ 1048576) (z2 : n2 ≤ 1048576) (z3 : n3 ≤ 1048576) (y1 : m1 ≤ 1048576) (y2 : m2 ≤ 1048576) (y3 : m3 ≤ 1048576) (hs : ∀ r ∈ ss, r.l.length ≤ 1048576 ∧ ∀ q ∈ r.l, q.l.length ≤ 1048576) (ht : ∀ r ∈ st, r.l.length ≤ 1048576 ∧ ∀ q ∈ r.l, q.l.length ≤ 1048576) :
    Calls Try.prog 63 #[.pointer (some ⟨b1, 0, none⟩), .pointer (some ⟨b2, 0, none⟩)] w fun e w' => e = .returned (.bool v) ∧ Below w.heap.size w w' := by
  have hl1 : b1 < w.heap.size := block_lt_of_cell q0
  have hl2 : b2 < w.heap.size := block_lt_of_cell p0
  have rb1 : Rd w A2 ss.length 1 (rowOf hdC ss) := rb.1
  have rb2 : ∀ a ∈ ss, rowsK.rd w a := rb.2
  have sb1 : Rd w B2 st.length 1 (rowOf hdC st) := sb.1
  have sb2 : ∀ a ∈ st, rowsK.rd w a := sb.2
  rw [lb] at rb1
  rw [mb] at sb1
  have RA := Lib.hid ra
  have RB := Lib.hid rb1
  have RB2 := Lib.hid rb2
  have RC := Lib.hid rc
  have TA := Lib.hid sa
  have TB := Lib.hid sb1
  have TB2 := Lib.hid sb2
  have TC := Lib.hid sc
  have LA := Lib.hid la
  have LB := Lib.hid lb
  have LC := Lib.hid lc
  have MA := Lib.hid ma
  have MB := Lib.hid mb
  have MC := Lib.hid mc
  have Q0 := Lib.hid q0
  have P0 := Lib.hid p0
  have Q1 := Lib.hid q1
  have P1 := Lib.hid p1
  have Q2 := Lib.hid q2
  have P2 := Lib.hid p2
  clear ra rb rc sa sb sc la lb lc ma mb mc rb1 rb2 sb1 sb2
  by_cases hla : n1 = m1
  rotate_left
  · have hne : Hid (¬ (cs = ct ∧ ns = nt ∧ rl2 ss = rl2 st)) := by
      rintro ⟨e1, e2, e3⟩
      have l1 := congrArg List.length e1
      exact hla (by rw [← LA.out, ← MA.out]; exact l1)
    have hlb : decide (n1 = m1) = false := decide_eq_false hla
    have hlb3 : ((n1 : Int) != (m1 : Int)) = true := by simp; omega
    go_enter Try.func63, Try.ntmps63
    go_wp2_with fail
    go_quiet (fail)
    go_wp2_with fail
    go_ret
    exact ⟨ret_bool (no_of hv hne.out).symm, below_drewN (Below.refl _ _) _⟩
  subst hla
  by_cases hlb' : n2 = m2
  rotate_left
  · have hne : Hid (¬ (cs = ct ∧ ns = nt ∧ rl2 ss = rl2 st)) := by
      rintro ⟨e1, e2, e3⟩
      have l1 := congrArg List.length e3
      rw [rl2_len, rl2_len] at l1; exact hlb' (by rw [← LB.out, ← MB.out]; exact l1)
    have hlb : decide (n2 = m2) = false := decide_eq_false hlb'
    have hlb3 : ((n2 : Int) != (m2 : Int)) = true := by simp; omega
    go_enter Try.func63, Try.ntmps63
    go_wp2_with fail
    go_quiet (fail)
    go_wp2_with fail
    go_ret
    exact ⟨ret_bool (no_of hv hne.out).symm, below_drewN (Below.refl _ _) _⟩
  subst hlb'
  by_cases hlc : n3 = m3
  rotate_left
  · have hne : Hid (¬ (cs = ct ∧ ns = nt ∧ rl2 ss = rl2 st)) := by
      rintro ⟨e1, e2, e3⟩
      have l1 := congrArg List.length e2
      exact hlc (by rw [← LC.out, ← MC.out]; exact l1)
    have hlb : decide (n3 = m3) = false := decide_eq_false hlc
    have hlb3 : ((n3 : Int) != (m3 : Int)) = true := by simp; omega
    go_enter Try.func63, Try.ntmps63
    go_wp2_with fail
    go_quiet (fail)
    go_wp2_with fail
    go_ret
    exact ⟨ret_bool (no_of hv hne.out).symm, below_drewN (Below.refl _ _) _⟩
  subst hlc
  have heq := eq_chv
  have hgd := guard_chv
  have heq2 := eq_nov
  have hgd2 := guard_nov
  go_enter Try.func63, Try.ntmps63
  go_wp2_with fail
  go_quiet (fail)
  clear q0 q1 q2 p0 p1 p2
  go_wp2_with fail
  go_loopw [5] (fun i wr => ∃ k : Nat, k ≤ n1 ∧ i = .int .i64 (k : Int) ∧ Hid (cs.take k = ct.take k) ∧ Below w.heap.size w wr) (fun i _ => n1 - (intOf i).toNat)
  case atStart => exact ⟨0, Nat.zero_le _, rfl, rfl, below_drewN (Below.refl _ _) _⟩
  case round =>
    obtain ⟨k, hk, rfl, hsame, hW⟩ := hrel
    have hWs := hW.size
    have hl3 : b1 < wr.heap.size := by omega
    have hl4 : b2 < wr.heap.size := by omega
    have q0 : wr.cell? ⟨b1, 0, none⟩ = some (.slice A1 n1 c1) := (hW.cell (p := ⟨b1, 0, none⟩) hl1).trans Q0.out
    have p0 : wr.cell? ⟨b2, 0, none⟩ = some (.slice B1 n1 d1) := (hW.cell (p := ⟨b2, 0, none⟩) hl2).trans P0.out
    by_cases hlt : k < n1
    · have ka : k < cs.length := by have := LA.out; omega
      have kb : k < ct.length := by have := MA.out; omega
      obtain ⟨b3, o3, e3, _, g3⟩ := (RA.out.below hW).at chC_len LA.out ka
      obtain ⟨b4, o4, e4, _, g4⟩ := (TA.out.below hW).at chC_len MA.out kb
      have u0 : wr.cell? ⟨b3, o3 + k * 4, none⟩ = some (.string cs[k].name) := g3 0 _ rfl
      have u1 : wr.cell? ⟨b3, o3 + k * 4 + 1, none⟩ = some (.string cs[k].unit) := g3 1 _ rfl
      have u2 : wr.cell? ⟨b3, o3 + k * 4 + 2, none⟩ = some (.int .i64 cs[k].low) := g3 2 _ rfl
      have u3 : wr.cell? ⟨b3, o3 + k * 4 + 3, none⟩ = some (.int .i64 cs[k].high) := g3 3 _ rfl
      have x0 : wr.cell? ⟨b4, o4 + k * 4, none⟩ = some (.string ct[k].name) := g4 0 _ rfl
      have x1 : wr.cell? ⟨b4, o4 + k * 4 + 1, none⟩ = some (.string ct[k].unit) := g4 1 _ rfl
      have x2 : wr.cell? ⟨b4, o4 + k * 4 + 2, none⟩ = some (.int .i64 ct[k].low) := g4 2 _ rfl
      have x3 : wr.cell? ⟨b4, o4 + k * 4 + 3, none⟩ = some (.int .i64 ct[k].high) := g4 3 _ rfl
      rw [e3] at q0
      rw [e4] at p0
      have hk0 : (0 : Int) ≤ (k : Int) := by omega
      have hkn : (k : Int) < (n1 : Int) := by omega
      clear g3 g4 e3 e4
      cases e1 : chEq cs[k] ct[k]
      · have hne : Hid (¬ cs = ct) := tk_part ka kb (chEq_no e1)
        go_wp2_with fail
        go_quiet (fail)
        go_wp2_with fail
        go_ret
        exact ⟨ret_bool (no_of hv fun h => hne.out h.1).symm, below_drewN hW _⟩
      · have hnx : Hid (cs.take (k + 1) = ct.take (k + 1)) := tk_more ka kb hsame.out (chEq_yes e1)
        go_wp2_with fail
        go_quiet (fail)
        go_wp2_with fail
        go_roundw
        case rel => exact ⟨k + 1, by omega, by go_num, hnx, below_drewN hW _⟩
        case measure => simp [intOf]; omega
    · have hq0 : Hid (cs = ct) := tk_all (k := k) (by have := LA.out; omega) (by have := MA.out; omega) hsame.out
      obtain ⟨wb, rfl⟩ : ∃ wb, wb = wr := ⟨wr, rfl⟩
      go_wp2_with fail
      go_loopw [6] (fun i wr => ∃ k : Nat, k ≤ n2 ∧ i = .int .i64 (k : Int) ∧ Hid ((rl2 ss).take k = (rl2 st).take k) ∧ Below w.heap.size w wr) (fun i _ => n2 - (intOf i).toNat)
      case atStart => exact ⟨0, Nat.zero_le _, rfl, rfl, hW⟩
      case round =>
        clear hsame hW hWs hl3 hl4 q0 p0 hlt hk
        obtain ⟨k, hk, rfl, hsame, hW⟩ := hrel
        have hWs := hW.size
        have hl3 : b1 < wr.heap.size := by omega
        have hl4 : b2 < wr.heap.size := by omega
        have q1 : wr.cell? ⟨b1, 1, none⟩ = some (.slice A2 n2 c2) := (hW.cell (p := ⟨b1, 1, none⟩) hl1).trans Q1.out
        have p1 : wr.cell? ⟨b2, 1, none⟩ = some (.slice B2 n2 d2) := (hW.cell (p := ⟨b2, 1, none⟩) hl2).trans P1.out
        by_cases hlt : k < n2
        · have ka : k < ss.length := by have := LB.out; omega
          have kb : k < st.length := by have := MB.out; omega
          have ka2 : k < (rl2 ss).length := by rw [rl2_len]; exact ka
          have kb2 : k < (rl2 st).length := by rw [rl2_len]; exact kb
          obtain ⟨b3, o3, e3, l3, g3⟩ := (RB.out.below hW).at hdC_len LB.out ka
          obtain ⟨b4, o4, e4, l4, g4⟩ := (TB.out.below hW).at hdC_len MB.out kb
          have u1 : wr.cell? ⟨b3, o3 + k, none⟩ = some (.slice ss[k].A ss[k].l.length ss[k].c) := by simpa [Sl.val] using g3 0 _ rfl
          have u2 : wr.cell? ⟨b4, o4 + k, none⟩ = some (.slice st[k].A st[k].l.length st[k].c) := by simpa [Sl.val] using g4 0 _ rfl
          rw [e3] at q1
          rw [e4] at p1
          have hsa := hs _ (List.getElem_mem ka)
          have hsb := ht _ (List.getElem_mem kb)
          have hk0 : (0 : Int) ≤ (k : Int) := by omega
          have hkn : (k : Int) < (n2 : Int) := by omega
          have X1 := Lib.hid (rowsK_ok.below (RB2.out _ (List.getElem_mem ka)) hW)
          have X2 := Lib.hid (rowsK_ok.below (TB2.out _ (List.getElem_mem kb)) hW)
          have X1d : Hid (rowsK.rd wr.drew ss[k]) := rowsK_ok.below X1.out (Below.drew (Below.refl _ _))
          have X2d : Hid (rowsK.rd wr.drew st[k]) := rowsK_ok.below X2.out (Below.drew (Below.refl _ _))
          clear g3 g4 e3 e4
          obtain ⟨u, hu⟩ := bool_of (rl ss[k].l = rl st[k].l)
          have HU : Is u (rl ss[k].l = rl st[k].l) := hu
          clear hu
          cases u
          · have hne : Hid (¬ rl2 ss = rl2 st) := tk_part ka2 kb2 (by rw [rl2_at ka2 ka, rl2_at kb2 kb]; exact fun e => absurd (HU.2 e) (by simp))
            clear ka2 kb2
            go_wp2_with fail
            refine wp_region_held_drew (S := (fun w' => (∀ kb ko, kb < wr.heap.size → w'.cell? ⟨kb, ko, none⟩ = wr.cell? ⟨kb, ko, none⟩) ∧ wr.heap.size ≤ w'.heap.size ∧ Below wr.heap.size wr w')) (by kernel_rfl) ?_ (fun hHeld => ?_)
            · (try dsimp only); (first | exact SB.mk hkB | exact SB.mk ((Below.refl _ _).drew) | (go_split_ands; refine SB.mk (Below.drew ?_); assumption) | (refine SB.mk ?_; go_grown; done) | (go_split_ands; refine SB.mk ?_; go_grown; done))
            first | (refine take_on (i := 0) (v := ?_) rfl (by kernel_rfl) (by kernel_rfl) (by kernel_rfl) (fun _ _ _ h => h) rfl ?_ (by assumption) ?_; rotate_left; · (intro w' hSw; (try dsimp only at hSw); go_simp; (try with_reducible rfl))) | (refine take_off (i := 0) rfl (by kernel_rfl) (by kernel_rfl) (by kernel_rfl) (fun _ _ _ h => h) rfl (by assumption) ?_)
            (try simp only [Act.put, List.setIfInBounds_toArray, List.set_cons_zero, List.set_cons_succ])
            first | (refine take_on (i := 1) (v := ?_) rfl (by kernel_rfl) (by kernel_rfl) (by kernel_rfl) (fun _ _ _ h => h) rfl ?_ (by assumption) ?_; rotate_left; · (intro w' hSw; (try dsimp only at hSw); go_simp; (try with_reducible rfl))) | (refine take_off (i := 1) rfl (by kernel_rfl) (by kernel_rfl) (by kernel_rfl) (fun _ _ _ h => h) rfl (by assumption) ?_)
            (try simp only [Act.put, List.setIfInBounds_toArray, List.set_cons_zero, List.set_cons_succ])
            first | (refine take_on (i := 2) (v := ?_) rfl (by kernel_rfl) (by kernel_rfl) (by kernel_rfl) (fun _ _ _ h => h) rfl ?_ (by assumption) ?_; rotate_left; · (intro w' hSw; (try dsimp only at hSw); go_simp; (try with_reducible rfl))) | (refine take_off (i := 2) rfl (by kernel_rfl) (by kernel_rfl) (by kernel_rfl) (fun _ _ _ h => h) rfl (by assumption) ?_)
            (try simp only [Act.put, List.setIfInBounds_toArray, List.set_cons_zero, List.set_cons_succ])
            first | (refine take_on (i := 3) (v := ?_) rfl (by kernel_rfl) (by kernel_rfl) (by kernel_rfl) (fun _ _ _ h => h) rfl ?_ (by assumption) ?_; rotate_left; · (intro w' hSw; (try dsimp only at hSw); go_simp; (try with_reducible rfl))) | (refine take_off (i := 3) rfl (by kernel_rfl) (by kernel_rfl) (by kernel_rfl) (fun _ _ _ h => h) rfl (by assumption) ?_)
            (try simp only [Act.put, List.setIfInBounds_toArray, List.set_cons_zero, List.set_cons_succ])
            first | (refine take_on (i := 4) (v := ?_) rfl (by kernel_rfl) (by kernel_rfl) (by kernel_rfl) (fun _ _ _ h => h) rfl ?_ (by assumption) ?_; rotate_left; · (intro w' hSw; (try dsimp only at hSw); go_simp; (try with_reducible rfl))) | (refine take_off (i := 4) rfl (by kernel_rfl) (by kernel_rfl) (by kernel_rfl) (fun _ _ _ h => h) rfl (by assumption) ?_)
            (try simp only [Act.put, List.setIfInBounds_toArray, List.set_cons_zero, List.set_cons_succ])
            first | (refine take_on (i := 5) (v := ?_) rfl (by kernel_rfl) (by kernel_rfl) (by kernel_rfl) (fun _ _ _ h => h) rfl ?_ (by assumption) ?_; rotate_left; · (intro w' hSw; (try dsimp only at hSw); go_simp; (try with_reducible rfl))) | (refine take_off (i := 5) rfl (by kernel_rfl) (by kernel_rfl) (by kernel_rfl) (fun _ _ _ h => h) rfl (by assumption) ?_)
            (try simp only [Act.put, List.setIfInBounds_toArray, List.set_cons_zero, List.set_cons_succ])
            first | (refine take_on (i := 6) (v := ?_) rfl (by kernel_rfl) (by kernel_rfl) (by kernel_rfl) (fun _ _ _ h => h) rfl ?_ (by assumption) ?_; rotate_left; · (intro w' hSw; (try dsimp only at hSw); go_simp; (try with_reducible rfl))) | (refine take_off (i := 6) rfl (by kernel_rfl) (by kernel_rfl) (by kernel_rfl) (fun _ _ _ h => h) rfl (by assumption) ?_)
            (try simp only [Act.put, List.setIfInBounds_toArray, List.set_cons_zero, List.set_cons_succ])
            first | (refine take_on (i := 7) (v := ?_) rfl (by kernel_rfl) (by kernel_rfl) (by kernel_rfl) (fun _ _ _ h => h) rfl ?_ (by assumption) ?_; rotate_left; · (intro w' hSw; (try dsimp only at hSw); go_simp; (try with_reducible rfl))) | (refine take_off (i := 7) rfl (by kernel_rfl) (by kernel_rfl) (by kernel_rfl) (fun _ _ _ h => h) rfl (by assumption) ?_)
            (try simp only [Act.put, List.setIfInBounds_toArray, List.set_cons_zero, List.set_cons_succ])
            first | (refine take_on (i := 8) (v := ?_) rfl (by kernel_rfl) (by kernel_rfl) (by kernel_rfl) (fun _ _ _ h => h) rfl ?_ (by assumption) ?_; rotate_left; · (intro w' hSw; (try dsimp only at hSw); go_simp; (try with_reducible rfl))) | (refine take_off (i := 8) rfl (by kernel_rfl) (by kernel_rfl) (by kernel_rfl) (fun _ _ _ h => h) rfl (by assumption) ?_)
            (try simp only [Act.put, List.setIfInBounds_toArray, List.set_cons_zero, List.set_cons_succ])
            first | (refine take_on (i := 9) (v := ?_) rfl (by kernel_rfl) (by kernel_rfl) (by kernel_rfl) (fun _ _ _ h => h) rfl ?_ (by assumption) ?_; rotate_left; · (intro w' hSw; (try dsimp only at hSw); go_simp; (try with_reducible rfl))) | (refine take_off (i := 9) rfl (by kernel_rfl) (by kernel_rfl) (by kernel_rfl) (fun _ _ _ h => h) rfl (by assumption) ?_)
            (try simp only [Act.put, List.setIfInBounds_toArray, List.set_cons_zero, List.set_cons_succ])
            first | (refine take_on (i := 10) (v := ?_) rfl (by kernel_rfl) (by kernel_rfl) (by kernel_rfl) (fun _ _ _ h => h) rfl ?_ (by assumption) ?_; rotate_left; · (intro w' hSw; (try dsimp only at hSw); go_simp; (try with_reducible rfl))) | (refine take_off (i := 10) rfl (by kernel_rfl) (by kernel_rfl) (by kernel_rfl) (fun _ _ _ h => h) rfl (by assumption) ?_)
            (try simp only [Act.put, List.setIfInBounds_toArray, List.set_cons_zero, List.set_cons_succ])
            first | (refine take_on (i := 11) (v := ?_) rfl (by kernel_rfl) (by kernel_rfl) (by kernel_rfl) (fun _ _ _ h => h) rfl ?_ (by assumption) ?_; rotate_left; · (intro w' hSw; (try dsimp only at hSw); go_simp; (try with_reducible rfl))) | (refine take_off (i := 11) rfl (by kernel_rfl) (by kernel_rfl) (by kernel_rfl) (fun _ _ _ h => h) rfl (by assumption) ?_)
            (try simp only [Act.put, List.setIfInBounds_toArray, List.set_cons_zero, List.set_cons_succ])
            first | (refine take_on (i := 12) (v := ?_) rfl (by kernel_rfl) (by kernel_rfl) (by kernel_rfl) (fun _ _ _ h => h) rfl ?_ (by assumption) ?_; rotate_left; · (intro w' hSw; (try dsimp only at hSw); go_simp; (try with_reducible rfl))) | (refine take_off (i := 12) rfl (by kernel_rfl) (by kernel_rfl) (by kernel_rfl) (fun _ _ _ h => h) rfl (by assumption) ?_)
            (try simp only [Act.put, List.setIfInBounds_toArray, List.set_cons_zero, List.set_cons_succ])
            first | (refine take_on (i := 13) (v := ?_) rfl (by kernel_rfl) (by kernel_rfl) (by kernel_rfl) (fun _ _ _ h => h) rfl ?_ (by assumption) ?_; rotate_left; · (intro w' hSw; (try dsimp only at hSw); go_simp; (try with_reducible rfl))) | (refine take_off (i := 13) rfl (by kernel_rfl) (by kernel_rfl) (by kernel_rfl) (fun _ _ _ h => h) rfl (by assumption) ?_)
            (try simp only [Act.put, List.setIfInBounds_toArray, List.set_cons_zero, List.set_cons_succ])
            first | (refine take_on (i := 14) (v := ?_) rfl (by kernel_rfl) (by kernel_rfl) (by kernel_rfl) (fun _ _ _ h => h) rfl ?_ (by assumption) ?_; rotate_left; · (intro w' hSw; (try dsimp only at hSw); go_simp; (try with_reducible rfl))) | (refine take_off (i := 14) rfl (by kernel_rfl) (by kernel_rfl) (by kernel_rfl) (fun _ _ _ h => h) rfl (by assumption) ?_)
            (try simp only [Act.put, List.setIfInBounds_toArray, List.set_cons_zero, List.set_cons_succ])
            first | (refine take_on (i := 15) (v := ?_) rfl (by kernel_rfl) (by kernel_rfl) (by kernel_rfl) (fun _ _ _ h => h) rfl ?_ (by assumption) ?_; rotate_left; · (intro w' hSw; (try dsimp only at hSw); go_simp; (try with_reducible rfl))) | (refine take_off (i := 15) rfl (by kernel_rfl) (by kernel_rfl) (by kernel_rfl) (fun _ _ _ h => h) rfl (by assumption) ?_)
            (try simp only [Act.put, List.setIfInBounds_toArray, List.set_cons_zero, List.set_cons_succ])
            refine wpAnyH_ready (rs := [16]) (by kernel_rfl) (by simp) ?_
            refine AllReadyH.cons rfl (fun K hK => ?_) AllReadyH.nil
            rw [if_pos (by rfl)]
            go_simp
            first | (go_at_call 107; (with_reducible refine (l03SameRows_any ss[k].A st[k].A ss[k].l.length st[k].l.length ss[k].c st[k].c ss[k].l st[k].l _ _ HU (by first | exact X1.out | exact X1d.out) (by first | exact X2.out | exact X2d.out) rfl rfl hsa.2 hsb.2 hsa.1 hsb.1).mono ?_); rintro e w' ⟨rfl, hb⟩; obtain ⟨_, hks, hkB⟩ := SB.next (by assumption) hb; obtain ⟨hkc, hkf⟩ := bcell hb; have hkz := hb.size; (try simp only [World.size_alloc, World.size_drew] at hkz); (first | (have hkt := Nat.lt_of_succ_le hkz) | (have hkt := Nat.lt_of_lt_of_le (by assumption) hkz) | skip); clear hb)
            refine hK.out _ _ ?_ (fun hHeld2 => ?_)
            · (try dsimp only); (first | exact SB.mk hkB | exact SB.mk ((Below.refl _ _).drew) | (go_split_ands; refine SB.mk (Below.drew ?_); assumption) | (refine SB.mk ?_; go_grown; done) | (go_split_ands; refine SB.mk ?_; go_grown; done))
            clear hK K hHeld; have hHeld := hHeld2; clear hHeld2; (try simp only [Act.put, List.setIfInBounds_toArray, List.set_cons_zero, List.set_cons_succ])
            first | (refine take_on (i := 17) (v := ?_) rfl (by kernel_rfl) (by kernel_rfl) (by kernel_rfl) (fun _ _ _ h => h) rfl ?_ (by assumption) ?_; rotate_left; · (intro w' hSw; (try dsimp only at hSw); go_simp; (try with_reducible rfl))) | (refine take_off (i := 17) rfl (by kernel_rfl) (by kernel_rfl) (by kernel_rfl) (fun _ _ _ h => h) rfl (by assumption) ?_)
            (try simp only [Act.put, List.setIfInBounds_toArray, List.set_cons_zero, List.set_cons_succ])
            refine wpAnyH_done (by kernel_rfl) ?_ _
            go_split_ands
            go_wp2_with fail
            go_ret
            exact ⟨ret_bool (no_of hv fun h => hne.out h.2.2).symm, Below.next hW (by assumption)⟩
          · have hnx : Hid ((rl2 ss).take (k + 1) = (rl2 st).take (k + 1)) := tk_more ka2 kb2 hsame.out (by rw [rl2_at ka2 ka, rl2_at kb2 kb]; exact HU.1 rfl)
            clear ka2 kb2
            go_wp2_with fail
            refine wp_region_held_drew (S := (fun w' => (∀ kb ko, kb < wr.heap.size → w'.cell? ⟨kb, ko, none⟩ = wr.cell? ⟨kb, ko, none⟩) ∧ wr.heap.size ≤ w'.heap.size ∧ Below wr.heap.size wr w')) (by kernel_rfl) ?_ (fun hHeld => ?_)
            · (try dsimp only); (first | exact SB.mk hkB | exact SB.mk ((Below.refl _ _).drew) | (go_split_ands; refine SB.mk (Below.drew ?_); assumption) | (refine SB.mk ?_; go_grown; done) | (go_split_ands; refine SB.mk ?_; go_grown; done))
            first | (refine take_on (i := 0) (v := ?_) rfl (by kernel_rfl) (by kernel_rfl) (by kernel_rfl) (fun _ _ _ h => h) rfl ?_ (by assumption) ?_; rotate_left; · (intro w' hSw; (try dsimp only at hSw); go_simp; (try with_reducible rfl))) | (refine take_off (i := 0) rfl (by kernel_rfl) (by kernel_rfl) (by kernel_rfl) (fun _ _ _ h => h) rfl (by assumption) ?_)
            (try simp only [Act.put, List.setIfInBounds_toArray, List.set_cons_zero, List.set_cons_succ])
            first | (refine take_on (i := 1) (v := ?_) rfl (by kernel_rfl) (by kernel_rfl) (by kernel_rfl) (fun _ _ _ h => h) rfl ?_ (by assumption) ?_; rotate_left; · (intro w' hSw; (try dsimp only at hSw); go_simp; (try with_reducible rfl))) | (refine take_off (i := 1) rfl (by kernel_rfl) (by kernel_rfl) (by kernel_rfl) (fun _ _ _ h => h) rfl (by assumption) ?_)
            (try simp only [Act.put, List.setIfInBounds_toArray, List.set_cons_zero, List.set_cons_succ])
            first | (refine take_on (i := 2) (v := ?_) rfl (by kernel_rfl) (by kernel_rfl) (by kernel_rfl) (fun _ _ _ h => h) rfl ?_ (by assumption) ?_; rotate_left; · (intro w' hSw; (try dsimp only at hSw); go_simp; (try with_reducible rfl))) | (refine take_off (i := 2) rfl (by kernel_rfl) (by kernel_rfl) (by kernel_rfl) (fun _ _ _ h => h) rfl (by assumption) ?_)
            (try simp only [Act.put, List.setIfInBounds_toArray, List.set_cons_zero, List.set_cons_succ])
            first | (refine take_on (i := 3) (v := ?_) rfl (by kernel_rfl) (by kernel_rfl) (by kernel_rfl) (fun _ _ _ h => h) rfl ?_ (by assumption) ?_; rotate_left; · (intro w' hSw; (try dsimp only at hSw); go_simp; (try with_reducible rfl))) | (refine take_off (i := 3) rfl (by kernel_rfl) (by kernel_rfl) (by kernel_rfl) (fun _ _ _ h => h) rfl (by assumption) ?_)
            (try simp only [Act.put, List.setIfInBounds_toArray, List.set_cons_zero, List.set_cons_succ])
            first | (refine take_on (i := 4) (v := ?_) rfl (by kernel_rfl) (by kernel_rfl) (by kernel_rfl) (fun _ _ _ h => h) rfl ?_ (by assumption) ?_; rotate_left; · (intro w' hSw; (try dsimp only at hSw); go_simp; (try with_reducible rfl))) | (refine take_off (i := 4) rfl (by kernel_rfl) (by kernel_rfl) (by kernel_rfl) (fun _ _ _ h => h) rfl (by assumption) ?_)
            (try simp only [Act.put, List.setIfInBounds_toArray, List.set_cons_zero, List.set_cons_succ])
            first | (refine take_on (i := 5) (v := ?_) rfl (by kernel_rfl) (by kernel_rfl) (by kernel_rfl) (fun _ _ _ h => h) rfl ?_ (by assumption) ?_; rotate_left; · (intro w' hSw; (try dsimp only at hSw); go_simp; (try with_reducible rfl))) | (refine take_off (i := 5) rfl (by kernel_rfl) (by kernel_rfl) (by kernel_rfl) (fun _ _ _ h => h) rfl (by assumption) ?_)
            (try simp only [Act.put, List.setIfInBounds_toArray, List.set_cons_zero, List.set_cons_succ])
            first | (refine take_on (i := 6) (v := ?_) rfl (by kernel_rfl) (by kernel_rfl) (by kernel_rfl) (fun _ _ _ h => h) rfl ?_ (by assumption) ?_; rotate_left; · (intro w' hSw; (try dsimp only at hSw); go_simp; (try with_reducible rfl))) | (refine take_off (i := 6) rfl (by kernel_rfl) (by kernel_rfl) (by kernel_rfl) (fun _ _ _ h => h) rfl (by assumption) ?_)
            (try simp only [Act.put, List.setIfInBounds_toArray, List.set_cons_zero, List.set_cons_succ])
            first | (refine take_on (i := 7) (v := ?_) rfl (by kernel_rfl) (by kernel_rfl) (by kernel_rfl) (fun _ _ _ h => h) rfl ?_ (by assumption) ?_; rotate_left; · (intro w' hSw; (try dsimp only at hSw); go_simp; (try with_reducible rfl))) | (refine take_off (i := 7) rfl (by kernel_rfl) (by kernel_rfl) (by kernel_rfl) (fun _ _ _ h => h) rfl (by assumption) ?_)
            (try simp only [Act.put, List.setIfInBounds_toArray, List.set_cons_zero, List.set_cons_succ])
            first | (refine take_on (i := 8) (v := ?_) rfl (by kernel_rfl) (by kernel_rfl) (by kernel_rfl) (fun _ _ _ h => h) rfl ?_ (by assumption) ?_; rotate_left; · (intro w' hSw; (try dsimp only at hSw); go_simp; (try with_reducible rfl))) | (refine take_off (i := 8) rfl (by kernel_rfl) (by kernel_rfl) (by kernel_rfl) (fun _ _ _ h => h) rfl (by assumption) ?_)
            (try simp only [Act.put, List.setIfInBounds_toArray, List.set_cons_zero, List.set_cons_succ])
            first | (refine take_on (i := 9) (v := ?_) rfl (by kernel_rfl) (by kernel_rfl) (by kernel_rfl) (fun _ _ _ h => h) rfl ?_ (by assumption) ?_; rotate_left; · (intro w' hSw; (try dsimp only at hSw); go_simp; (try with_reducible rfl))) | (refine take_off (i := 9) rfl (by kernel_rfl) (by kernel_rfl) (by kernel_rfl) (fun _ _ _ h => h) rfl (by assumption) ?_)
            (try simp only [Act.put, List.setIfInBounds_toArray, List.set_cons_zero, List.set_cons_succ])
            first | (refine take_on (i := 10) (v := ?_) rfl (by kernel_rfl) (by kernel_rfl) (by kernel_rfl) (fun _ _ _ h => h) rfl ?_ (by assumption) ?_; rotate_left; · (intro w' hSw; (try dsimp only at hSw); go_simp; (try with_reducible rfl))) | (refine take_off (i := 10) rfl (by kernel_rfl) (by kernel_rfl) (by kernel_rfl) (fun _ _ _ h => h) rfl (by assumption) ?_)
            (try simp only [Act.put, List.setIfInBounds_toArray, List.set_cons_zero, List.set_cons_succ])
            first | (refine take_on (i := 11) (v := ?_) rfl (by kernel_rfl) (by kernel_rfl) (by kernel_rfl) (fun _ _ _ h => h) rfl ?_ (by assumption) ?_; rotate_left; · (intro w' hSw; (try dsimp only at hSw); go_simp; (try with_reducible rfl))) | (refine take_off (i := 11) rfl (by kernel_rfl) (by kernel_rfl) (by kernel_rfl) (fun _ _ _ h => h) rfl (by assumption) ?_)
            (try simp only [Act.put, List.setIfInBounds_toArray, List.set_cons_zero, List.set_cons_succ])
            first | (refine take_on (i := 12) (v := ?_) rfl (by kernel_rfl) (by kernel_rfl) (by kernel_rfl) (fun _ _ _ h => h) rfl ?_ (by assumption) ?_; rotate_left; · (intro w' hSw; (try dsimp only at hSw); go_simp; (try with_reducible rfl))) | (refine take_off (i := 12) rfl (by kernel_rfl) (by kernel_rfl) (by kernel_rfl) (fun _ _ _ h => h) rfl (by assumption) ?_)
            (try simp only [Act.put, List.setIfInBounds_toArray, List.set_cons_zero, List.set_cons_succ])
            first | (refine take_on (i := 13) (v := ?_) rfl (by kernel_rfl) (by kernel_rfl) (by kernel_rfl) (fun _ _ _ h => h) rfl ?_ (by assumption) ?_; rotate_left; · (intro w' hSw; (try dsimp only at hSw); go_simp; (try with_reducible rfl))) | (refine take_off (i := 13) rfl (by kernel_rfl) (by kernel_rfl) (by kernel_rfl) (fun _ _ _ h => h) rfl (by assumption) ?_)
            (try simp only [Act.put, List.setIfInBounds_toArray, List.set_cons_zero, List.set_cons_succ])
            first | (refine take_on (i := 14) (v := ?_) rfl (by kernel_rfl) (by kernel_rfl) (by kernel_rfl) (fun _ _ _ h => h) rfl ?_ (by assumption) ?_; rotate_left; · (intro w' hSw; (try dsimp only at hSw); go_simp; (try with_reducible rfl))) | (refine take_off (i := 14) rfl (by kernel_rfl) (by kernel_rfl) (by kernel_rfl) (fun _ _ _ h => h) rfl (by assumption) ?_)
            (try simp only [Act.put, List.setIfInBounds_toArray, List.set_cons_zero, List.set_cons_succ])
            first | (refine take_on (i := 15) (v := ?_) rfl (by kernel_rfl) (by kernel_rfl) (by kernel_rfl) (fun _ _ _ h => h) rfl ?_ (by assumption) ?_; rotate_left; · (intro w' hSw; (try dsimp only at hSw); go_simp; (try with_reducible rfl))) | (refine take_off (i := 15) rfl (by kernel_rfl) (by kernel_rfl) (by kernel_rfl) (fun _ _ _ h => h) rfl (by assumption) ?_)
            (try simp only [Act.put, List.setIfInBounds_toArray, List.set_cons_zero, List.set_cons_succ])
            refine wpAnyH_ready (rs := [16]) (by kernel_rfl) (by simp) ?_
            refine AllReadyH.cons rfl (fun K hK => ?_) AllReadyH.nil
            rw [if_pos (by rfl)]
            go_simp
            first | (go_at_call 107; (with_reducible refine (l03SameRows_any ss[k].A st[k].A ss[k].l.length st[k].l.length ss[k].c st[k].c ss[k].l st[k].l _ _ HU (by first | exact X1.out | exact X1d.out) (by first | exact X2.out | exact X2d.out) rfl rfl hsa.2 hsb.2 hsa.1 hsb.1).mono ?_); rintro e w' ⟨rfl, hb⟩; obtain ⟨_, hks, hkB⟩ := SB.next (by assumption) hb; obtain ⟨hkc, hkf⟩ := bcell hb; have hkz := hb.size; (try simp only [World.size_alloc, World.size_drew] at hkz); (first | (have hkt := Nat.lt_of_succ_le hkz) | (have hkt := Nat.lt_of_lt_of_le (by assumption) hkz) | skip); clear hb)
            refine hK.out _ _ ?_ (fun hHeld2 => ?_)
            · (try dsimp only); (first | exact SB.mk hkB | exact SB.mk ((Below.refl _ _).drew) | (go_split_ands; refine SB.mk (Below.drew ?_); assumption) | (refine SB.mk ?_; go_grown; done) | (go_split_ands; refine SB.mk ?_; go_grown; done))
            clear hK K hHeld; have hHeld := hHeld2; clear hHeld2; (try simp only [Act.put, List.setIfInBounds_toArray, List.set_cons_zero, List.set_cons_succ])
            first | (refine take_on (i := 17) (v := ?_) rfl (by kernel_rfl) (by kernel_rfl) (by kernel_rfl) (fun _ _ _ h => h) rfl ?_ (by assumption) ?_; rotate_left; · (intro w' hSw; (try dsimp only at hSw); go_simp; (try with_reducible rfl))) | (refine take_off (i := 17) rfl (by kernel_rfl) (by kernel_rfl) (by kernel_rfl) (fun _ _ _ h => h) rfl (by assumption) ?_)
            (try simp only [Act.put, List.setIfInBounds_toArray, List.set_cons_zero, List.set_cons_succ])
            refine wpAnyH_done (by kernel_rfl) ?_ _
            go_split_ands
            go_wp2_with fail
            go_roundw
            case rel => exact ⟨k + 1, by omega, by go_num, hnx, Below.next hW (by assumption)⟩
            case measure => simp [intOf]; omega
        · have hq1 : Hid (rl2 ss = rl2 st) := tk_all (k := k) (by rw [rl2_len]; have := LB.out; omega) (by rw [rl2_len]; have := MB.out; omega) hsame.out
          obtain ⟨wc, rfl⟩ : ∃ wc, wc = wr := ⟨wr, rfl⟩
          go_wp2_with fail
          go_loopw [7] (fun i wr => ∃ k : Nat, k ≤ n3 ∧ i = .int .i64 (k : Int) ∧ Hid (ns.take k = nt.take k) ∧ Below w.heap.size w wr) (fun i _ => n3 - (intOf i).toNat)
          case atStart => exact ⟨0, Nat.zero_le _, rfl, rfl, hW⟩
          case round =>
            clear hsame hW hWs hl3 hl4 q1 p1 hlt hk
            obtain ⟨k, hk, rfl, hsame, hW⟩ := hrel
            have hWs := hW.size
            have hl3 : b1 < wr.heap.size := by omega
            have hl4 : b2 < wr.heap.size := by omega
            have q2 : wr.cell? ⟨b1, 2, none⟩ = some (.slice A3 n3 c3) := (hW.cell (p := ⟨b1, 2, none⟩) hl1).trans Q2.out
            have p2 : wr.cell? ⟨b2, 2, none⟩ = some (.slice B3 n3 d3) := (hW.cell (p := ⟨b2, 2, none⟩) hl2).trans P2.out
            by_cases hlt : k < n3
            · have ka : k < ns.length := by have := LC.out; omega
              have kb : k < nt.length := by have := MC.out; omega
              obtain ⟨b3, o3, e3, _, g3⟩ := (RC.out.below hW).at noC_len LC.out ka
              obtain ⟨b4, o4, e4, _, g4⟩ := (TC.out.below hW).at noC_len MC.out kb
              have u0 : wr.cell? ⟨b3, o3 + k * 3, none⟩ = some (.int .i64 ns[k].fr) := g3 0 _ rfl
              have u1 : wr.cell? ⟨b3, o3 + k * 3 + 1, none⟩ = some (.int .i64 ns[k].til) := g3 1 _ rfl
              have u2 : wr.cell? ⟨b3, o3 + k * 3 + 2, none⟩ = some (.string ns[k].text) := g3 2 _ rfl
              have x0 : wr.cell? ⟨b4, o4 + k * 3, none⟩ = some (.int .i64 nt[k].fr) := g4 0 _ rfl
              have x1 : wr.cell? ⟨b4, o4 + k * 3 + 1, none⟩ = some (.int .i64 nt[k].til) := g4 1 _ rfl
              have x2 : wr.cell? ⟨b4, o4 + k * 3 + 2, none⟩ = some (.string nt[k].text) := g4 2 _ rfl
              rw [e3] at q2
              rw [e4] at p2
              have hk0 : (0 : Int) ≤ (k : Int) := by omega
              have hkn : (k : Int) < (n3 : Int) := by omega
              clear g3 g4 e3 e4
              cases e1 : noEq ns[k] nt[k]
              · have hne : Hid (¬ ns = nt) := tk_part ka kb (noEq_no e1)
                go_wp2_with fail
                go_quiet (fail)
                go_wp2_with fail
                go_ret
                exact ⟨ret_bool (no_of hv fun h => hne.out h.2.1).symm, below_drewN hW _⟩
              · have hnx : Hid (ns.take (k + 1) = nt.take (k + 1)) := tk_more ka kb hsame.out (noEq_yes e1)
                go_wp2_with fail
                go_quiet (fail)
                go_wp2_with fail
                go_roundw
                case rel => exact ⟨k + 1, by omega, by go_num, hnx, below_drewN hW _⟩
                case measure => simp [intOf]; omega
            · have hq2 : Hid (ns = nt) := tk_all (k := k) (by have := LC.out; omega) (by have := MC.out; omega) hsame.out
              go_wp2_with fail
              go_ret
              exact ⟨ret_bool (hv.2 ⟨hq0.out, hq2.out, hq1.out⟩).symm, hW⟩

set_option maxHeartbeats 4000000 in
theorem sSameFile_any (f g : Fl) (v : Bool) (w : World) (hv : Is v (filePl f = filePl g)) (hf : FileRd w f) (hg : FileRd w g) (hs : FileSz f) (ht : FileSz g) :
    Calls Try.prog 21 #[.agg #[.slice f.ch.A f.ch.l.length f.ch.c, .slice f.st.A f.st.l.length f.st.c, .slice f.no.A f.no.l.length f.no.c], .agg #[.slice g.ch.A g.ch.l.length g.ch.c, .slice g.st.A g.st.l.length g.st.c, .slice g.no.A g.no.l.length g.no.c]] w fun e w' => e = .returned (.bool v) ∧ Below w.heap.size w w' := by
  have hv2 : Is v (f.ch.l = g.ch.l ∧ f.no.l = g.no.l ∧ rl2 f.st.l = rl2 g.st.l) := hv.trans file_eq
  have HK1 : Hid (Bk ((w.alloc (.cells #[.slice f.ch.A f.ch.l.length f.ch.c, .slice f.st.A f.st.l.length f.st.c, .slice f.no.A f.no.l.length f.no.c] 30)).alloc (.cells #[.slice g.ch.A g.ch.l.length g.ch.c, .slice g.st.A g.st.l.length g.st.c, .slice g.no.A g.no.l.length g.no.c] 30)) w.heap.size 30 #[.slice f.ch.A f.ch.l.length f.ch.c, .slice f.st.A f.st.l.length f.st.c, .slice f.no.A f.no.l.length f.no.c]) := (Bk.new w _ _).alloc _
  have HK2 : Hid (Bk ((w.alloc (.cells #[.slice f.ch.A f.ch.l.length f.ch.c, .slice f.st.A f.st.l.length f.st.c, .slice f.no.A f.no.l.length f.no.c] 30)).alloc (.cells #[.slice g.ch.A g.ch.l.length g.ch.c, .slice g.st.A g.st.l.length g.st.c, .slice g.no.A g.no.l.length g.no.c] 30)) (w.heap.size + 1) 30 #[.slice g.ch.A g.ch.l.length g.ch.c, .slice g.st.A g.st.l.length g.st.c, .slice g.no.A g.no.l.length g.no.c]) := Bk.new1 w _ _ _
  have hWa : Below w.heap.size w ((w.alloc (.cells #[.slice f.ch.A f.ch.l.length f.ch.c, .slice f.st.A f.st.l.length f.st.c, .slice f.no.A f.no.l.length f.no.c] 30)).alloc (.cells #[.slice g.ch.A g.ch.l.length g.ch.c, .slice g.st.A g.st.l.length g.st.c, .slice g.no.A g.no.l.length g.no.c] 30)) := by go_grown
  have HF := Lib.hid (hf.below hWa)
  have HG := Lib.hid (hg.below hWa)
  have HW := Lib.hid hWa
  clear hf hg hWa hv
  go_enter Try.func21, Try.ntmps21
  go_wp2_with fail
  refine (l03Same_any w.heap.size (w.heap.size + 1) _ _ _ f.ch.l _ _ _ f.st.l _ _ _ f.no.l _ _ _ g.ch.l _ _ _ g.st.l _ _ _ g.no.l v _ hv2 (HK1.out.cell 0) (HK2.out.cell 0) (HK1.out.cell 1) (HK2.out.cell 1) (HK1.out.cell 2) (HK2.out.cell 2) HF.out.ch.1 HF.out.st HF.out.no.1 HG.out.ch.1 HG.out.st HG.out.no.1 rfl rfl rfl rfl rfl rfl hs.ch hs.st hs.no ht.ch ht.st ht.no (rows_sz hs) (rows_sz ht)).mono ?_
  rintro e w2 ⟨rfl, hb2⟩
  have hW2 : Below w.heap.size w w2 := Below.next HW.out hb2
  clear hb2
  go_wp2_with fail
  go_ret
  exact ⟨rfl, hW2⟩
theorem iSameFile_L (f g : Fl) (p q : FlP) (v : Bool) (w : World) (hv : Is v (p = q)) (hf : FileRd w f) (hg : FileRd w g) (hp : filePl f = p) (hq : filePl g = q) (hs : PlSz p) (ht : PlSz q) :
    Calls Try.prog 23 #[.agg #[.slice f.ch.A f.ch.l.length f.ch.c, .slice f.st.A f.st.l.length f.st.c, .slice f.no.A f.no.l.length f.no.c], .agg #[.slice g.ch.A g.ch.l.length g.ch.c, .slice g.st.A g.st.l.length g.st.c, .slice g.no.A g.no.l.length g.no.c]] w fun e w' => e = .returned (.bool v) ∧ Below w.heap.size w w' := by
  subst hp; subst hq
  exact iSameFile_any f g v w hv hf hg (FileSz.of_pl rfl hs) (FileSz.of_pl rfl ht)
theorem sSameFile_L (f g : Fl) (p q : FlP) (v : Bool) (w : World) (hv : Is v (p = q)) (hf : FileRd w f) (hg : FileRd w g) (hp : filePl f = p) (hq : filePl g = q) (hs : PlSz p) (ht : PlSz q) :
    Calls Try.prog 21 #[.agg #[.slice f.ch.A f.ch.l.length f.ch.c, .slice f.st.A f.st.l.length f.st.c, .slice f.no.A f.no.l.length f.no.c], .agg #[.slice g.ch.A g.ch.l.length g.ch.c, .slice g.st.A g.st.l.length g.st.c, .slice g.no.A g.no.l.length g.no.c]] w fun e w' => e = .returned (.bool v) ∧ Below w.heap.size w w' := by
  subst hp; subst hq
  exact sSameFile_any f g v w hv hf hg (FileSz.of_pl rfl hs) (FileSz.of_pl rfl ht)
end Go.Proofs.Ytigingjpdlfanaa
