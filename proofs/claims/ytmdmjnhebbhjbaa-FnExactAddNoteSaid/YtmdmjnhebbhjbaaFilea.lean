/-
  Files in memory; compared, marked, asked for their marks. Sizes and marks of a file by its plain contents. Pushing onto a nested slice of one's own.
-/
import Derived.Test.YtmdmjnhebbhjbaaStra
import Derived.Test.YtmdmjnhebbhjbaaKda
namespace Go.Proofs.Ytmdmjnhebbhjbaa
set_option linter.unusedSimpArgs false
set_option linter.unusedVariables false
set_option maxRecDepth 20000
open Go.RowKit
open Go.ChangeShapes Go.WideShapes Go.Deep Go.Joins

structure Fl where
  ch : Sl Ch
  st : Sl (Sl (Sl Int))
  no : Sl No
def chsK : Kd (Sl Ch) (List Ch) := (Kd.flat chC 4 74).sl 0
def nosK : Kd (Sl No) (List No) := (Kd.flat noC 3 39).sl 0
theorem chsK_ok : chsK.Ok := Kd.sl_ok (Kd.flat_ok chC_len) _
theorem nosK_ok : nosK.Ok := Kd.sl_ok (Kd.flat_ok noC_len) _
/-- a file that reads so -/
structure FileRd (w : World) (f : Fl) : Prop where
  ch : chsK.rd w f.ch
  st : stK.rd w f.st
  no : nosK.rd w f.no
theorem FileRd.below {w w' : World} {f : Fl} (h : FileRd w f) (hb : Below w.heap.size w w') : FileRd w' f := ⟨chsK_ok.below h.ch hb, stK_ok.below h.st hb, nosK_ok.below h.no hb⟩
/-- its plain contents -/
structure FlP where
  ch : List Ch
  st : List (List (List Int))
  no : List No
def filePl (f : Fl) : FlP := ⟨f.ch.l, stK.pl f.st, f.no.l⟩
/-- how long its parts are -/
structure FileSz (f : Fl) : Prop where
  ch : f.ch.l.length ≤ 1048576
  st : f.st.l.length ≤ 1048576
  rows : ∀ s ∈ f.st.l, s.l.length ≤ 1048576 ∧ (∀ r ∈ s.l, r.l.length ≤ 1048576) ∧ cntL cntRow s.l ≤ 16777216
  sum : cntL cntRows f.st.l ≤ 16777216
  no : f.no.l.length ≤ 1048576
def Fl.v1 (f : Fl) : Value := .slice f.ch.A f.ch.l.length f.ch.c
def Fl.v2 (f : Fl) : Value := .slice f.st.A f.st.l.length f.st.c
def Fl.v3 (f : Fl) : Value := .slice f.no.A f.no.l.length f.no.c
/-- a file of one's own -/
structure FileMine (w : World) (lo hi : Nat) (f : Fl) : Prop where
  ch : Mine chsK w lo hi f.ch
  st : Mine stK w lo hi f.st
  no : Mine nosK w lo hi f.no
  d1 : ∀ b ∈ chsK.fp f.ch, b ∉ stK.fp f.st
  d2 : ∀ b ∈ chsK.fp f.ch, b ∉ nosK.fp f.no
  d3 : ∀ b ∈ stK.fp f.st, b ∉ nosK.fp f.no
def fileFp (f : Fl) : List Nat := chsK.fp f.ch ++ (stK.fp f.st ++ nosK.fp f.no)
theorem FileMine.rd {w : World} {lo hi : Nat} {f : Fl} (h : FileMine w lo hi f) : FileRd w f := ⟨h.ch.rd chsK_ok, h.st.rd stK_ok, h.no.rd nosK_ok⟩
theorem FileMine.next {w w' : World} {lo hi : Nat} {f : Fl} (h : FileMine w lo hi f) (hb : Below w.heap.size w w') : FileMine w' lo hi f := ⟨h.ch.next chsK_ok hb, h.st.next stK_ok hb, h.no.next nosK_ok hb, h.d1, h.d2, h.d3⟩
theorem FileMine.chg {fp : List Nat} {w w' : World} {lo hi : Nat} {f : Fl} (h : FileMine w lo hi f) (hc : ChgF fp w w') (hd : ∀ b ∈ fp, b < lo ∨ hi ≤ b) : FileMine w' lo hi f :=
  ⟨h.ch.chg chsK_ok hc fun b hb hm => by have := h.ch.rng b hb; have := hd b hm; omega, h.st.chg stK_ok hc fun b hb hm => by have := h.st.rng b hb; have := hd b hm; omega, h.no.chg nosK_ok hc fun b hb hm => by have := h.no.rng b hb; have := hd b hm; omega, h.d1, h.d2, h.d3⟩
theorem FileMine.rng {w : World} {lo hi : Nat} {f : Fl} (h : FileMine w lo hi f) : ∀ b ∈ fileFp f, lo ≤ b ∧ b < hi := fun b hb => by
  rcases List.mem_append.1 hb with hb | hb
  · exact h.ch.rng b hb
  · rcases List.mem_append.1 hb with hb | hb
    · exact h.st.rng b hb
    · exact h.no.rng b hb
theorem ChgF.bk {fp : List Nat} {w w' : World} {g : Nat} {t : TypeId} {cs : Array Value} (hc : ChgF fp w w') (h : Bk w g t cs) (hg : g ∉ fp) : Bk w' g t cs := (hc.block g h.lt hg).trans h

set_option maxHeartbeats 4000000 in
theorem eqFile_same (f g : Fl) (w : World) (hf : FileRd w f) (hg : FileRd w g) (hp : filePl f = filePl g) (hs : FileSz f) :
    Calls Try.prog 10 #[.agg #[.slice f.ch.A f.ch.l.length f.ch.c, .slice f.st.A f.st.l.length f.st.c, .slice f.no.A f.no.l.length f.no.c], .agg #[.slice g.ch.A g.ch.l.length g.ch.c, .slice g.st.A g.st.l.length g.st.c, .slice g.no.A g.no.l.length g.no.c]] w fun e w' => e = .returned (.bool true) ∧ Below w.heap.size w w' := by
  have hp1 : f.ch.l = g.ch.l := congrArg FlP.ch hp
  have hp2 : f.st.l.map rowsK.pl = g.st.l.map rowsK.pl := congrArg FlP.st hp
  have hp3 : f.no.l = g.no.l := congrArg FlP.no hp
  obtain ⟨x1, hx1⟩ : ∃ x, g.ch.l.length = x := ⟨_, rfl⟩
  obtain ⟨x2, hx2⟩ : ∃ x, g.st.l.length = x := ⟨_, rfl⟩
  obtain ⟨x3, hx3⟩ : ∃ x, g.no.l.length = x := ⟨_, rfl⟩
  have hl1 : f.ch.l.length = x1 := by rw [hp1, hx1]
  have hl2 : f.st.l.length = x2 := by rw [pl_len hp2, hx2]
  have hl3 : f.no.l.length = x3 := by rw [hp3, hx3]
  have HF := Lib.hid hf
  have HG := Lib.hid hg
  have HS := Lib.hid hs
  have HP2 := Lib.hid hp2
  have HP1 := Lib.hid hp1
  have HP3 := Lib.hid hp3
  have L1 := Lib.hid hl1
  have L2 := Lib.hid hl2
  have L3 := Lib.hid hl3
  have M2 := Lib.hid hx2
  rw [hx1, hx2, hx3, hl1, hl2, hl3]
  clear hf hg hp hs hp1 hp2 hp3 hl1 hl2 hl3 hx1 hx2 hx3
  go_enter Try.func10, Try.ntmps10
  go_wp2_with fail
  have HB0 : Hid (Below w.heap.size w ((w.alloc (.cells #[.slice f.ch.A x1 f.ch.c, .slice f.st.A x2 f.st.c, .slice f.no.A x3 f.no.c] 35)).alloc (.cells #[.slice g.ch.A x1 g.ch.c, .slice g.st.A x2 g.st.c, .slice g.no.A x3 g.no.c] 35))) := (Below.alloc (Below.refl _ _) (Nat.le_refl _) _).alloc (by simp) _
  have ra : chsK.rd _ f.ch := chsK_ok.below HF.out.ch HB0.out
  have rb : chsK.rd _ g.ch := chsK_ok.below HG.out.ch HB0.out
  have ra1 := ra.1
  have rb1 := rb.1
  rw [show g.ch.l = f.ch.l from HP1.out.symm] at rb1
  rw [show f.ch.l.length = x1 from L1.out] at ra1 rb1
  refine (eqChannelS_same f.ch.A g.ch.A x1 f.ch.c g.ch.c f.ch.l _ ra1 rb1 L1.out (by rw [← L1.out]; exact HS.out.ch)).mono ?_
  rintro e w2 ⟨rfl, hb2⟩
  have HB2 : Hid (Below w.heap.size w w2) := Below.next HB0.out hb2
  obtain ⟨hc2, hf2⟩ := bcell hb2
  have hz2 := hb2.size
  simp only [World.size_alloc] at hz2
  clear hb2 ra rb ra1 rb1
  go_wp2_with fail
  have P2 := HP2.out
  refine (eqRowsS_same f.st.A g.st.A x2 x2 f.st.c g.st.c f.st.l g.st.l _ (stK_ok.below HF.out.st HB2.out) (stK_ok.below HG.out.st HB2.out) L2.out M2.out P2 (fun s hs => ⟨(HS.out.rows s hs).1, (HS.out.rows s hs).2.1⟩) (by rw [← L2.out]; exact HS.out.st)).mono ?_
  rintro e w3 ⟨rfl, hb3⟩
  have HB3 : Hid (Below w.heap.size w w3) := Below.next HB2.out hb3
  obtain ⟨hc3, hf3⟩ := bcell hb3
  have hz3 := hb3.size
  have hq1 : w.heap.size < w2.heap.size := by omega
  have hq2 : w.heap.size + 1 < w2.heap.size := by omega
  clear hb3 P2
  go_wp2_with fail
  have ra : nosK.rd _ f.no := nosK_ok.below HF.out.no HB3.out
  have rb : nosK.rd _ g.no := nosK_ok.below HG.out.no HB3.out
  have ra1 := ra.1
  have rb1 := rb.1
  rw [show g.no.l = f.no.l from HP3.out.symm] at rb1
  rw [show f.no.l.length = x3 from L3.out] at ra1 rb1
  refine (eqNoteS_same f.no.A g.no.A x3 f.no.c g.no.c f.no.l _ ra1 rb1 L3.out (by rw [← L3.out]; exact HS.out.no)).mono ?_
  rintro e w4 ⟨rfl, hb4⟩
  have HB4 : Hid (Below w.heap.size w w4) := Below.next HB3.out hb4
  clear hb4 ra rb ra1 rb1
  go_wp2_with fail
  go_ret
  exact ⟨rfl, HB4.out⟩

def mkCh (k : Nat) (s : Sl Ch) : Sl Ch := ⟨s.A, s.c, marksC k s.l.length⟩
def mkNo (k : Nat) (s : Sl No) : Sl No := ⟨s.A, s.c, marksN k s.l.length⟩
theorem mkCh_fp (k : Nat) (a : Sl Ch) : chsK.fp (mkCh k a) = chsK.fp a := by
  show (Value.slice a.A (marksC k a.l.length).length a.c).ownBlock.toList ++ (marksC k a.l.length).flatMap (fun _ => []) = (Value.slice a.A a.l.length a.c).ownBlock.toList ++ a.l.flatMap (fun _ => [])
  have z : ∀ L : List Ch, L.flatMap (fun _ => ([] : List Nat)) = [] := fun L => by simp
  rw [marksC_len, z, z]
theorem mkNo_fp (k : Nat) (a : Sl No) : nosK.fp (mkNo k a) = nosK.fp a := by
  show (Value.slice a.A (marksN k a.l.length).length a.c).ownBlock.toList ++ (marksN k a.l.length).flatMap (fun _ => []) = (Value.slice a.A a.l.length a.c).ownBlock.toList ++ a.l.flatMap (fun _ => [])
  have z : ∀ L : List No, L.flatMap (fun _ => ([] : List Nat)) = [] := fun L => by simp
  rw [marksN_len, z, z]
theorem markCh_any (s : Sl Ch) (lo hi k : Nat) (w : World) (h : Mine chsK w lo hi s) (hn : s.l.length ≤ 1048576) (hk0 : 0 < k) (hk : k ≤ 1073741824) :
    Calls Try.prog 30 #[.slice s.A s.l.length s.c, .int .i64 (k : Int)] w fun e w' => e = .returned (.int .i64 ((k + 4 * s.l.length : Nat) : Int)) ∧ Mine chsK w' lo hi (mkCh k s) ∧ ChgF (chsK.fp s) w w' := by
  refine (markChannelS_any 0 s.val s.l s.l.length k w h.own.1 rfl hn hk0 hk).mono ?_
  rintro e w' ⟨rfl, ho, hg⟩
  refine ⟨rfl, ⟨⟨?_, fun a _ => trivial⟩, by rw [mkCh_fp]; exact h.apart, by rw [mkCh_fp]; exact h.rng⟩, ChgF.of_grown hg fun b hb => Kd.fp_top (K := Kd.flat chC 4 74) (T := 0) hb⟩
  have e : (mkCh k s).val = s.val := by show Value.slice s.A (marksC k s.l.length).length s.c = _; rw [marksC_len]; rfl
  rw [e]
  exact ho
theorem markNo_any (s : Sl No) (lo hi k : Nat) (w : World) (h : Mine nosK w lo hi s) (hn : s.l.length ≤ 1048576) (hk0 : 0 < k) (hk : k ≤ 1073741824) :
    Calls Try.prog 32 #[.slice s.A s.l.length s.c, .int .i64 (k : Int)] w fun e w' => e = .returned (.int .i64 ((k + 3 * s.l.length : Nat) : Int)) ∧ Mine nosK w' lo hi (mkNo k s) ∧ ChgF (nosK.fp s) w w' := by
  refine (markNoteS_any 0 s.val s.l s.l.length k w h.own.1 rfl hn hk0 hk).mono ?_
  rintro e w' ⟨rfl, ho, hg⟩
  refine ⟨rfl, ⟨⟨?_, fun a _ => trivial⟩, by rw [mkNo_fp]; exact h.apart, by rw [mkNo_fp]; exact h.rng⟩, ChgF.of_grown hg fun b hb => Kd.fp_top (K := Kd.flat noC 3 39) (T := 0) hb⟩
  have e : (mkNo k s).val = s.val := by show Value.slice s.A (marksN k s.l.length).length s.c = _; rw [marksN_len]; rfl
  rw [e]
  exact ho

def mkSt (k : Nat) (s : Sl (Sl (Sl Int))) : Sl (Sl (Sl Int)) := mkSl mkRows cntRows k s
theorem mkSt_fp (k : Nat) (s : Sl (Sl (Sl Int))) : stK.fp (mkSt k s) = stK.fp s := (mkSl_ok mkRows_ok 0).fp k s
/-- a file with its marks, and how many they are -/
def mkFile (k : Nat) (f : Fl) : Fl := ⟨mkCh k f.ch, mkSt (k + 4 * f.ch.l.length) f.st, mkNo (k + 4 * f.ch.l.length + cntL cntRows f.st.l) f.no⟩
def cntFile (f : Fl) : Nat := 4 * f.ch.l.length + cntL cntRows f.st.l + 3 * f.no.l.length
theorem mem_fp1 {f : Fl} {b : Nat} (h : b ∈ chsK.fp f.ch) : b ∈ fileFp f := List.mem_append_left _ h
theorem mem_fp2 {f : Fl} {b : Nat} (h : b ∈ stK.fp f.st) : b ∈ fileFp f := List.mem_append_right _ (List.mem_append_left _ h)
theorem mem_fp3 {f : Fl} {b : Nat} (h : b ∈ nosK.fp f.no) : b ∈ fileFp f := List.mem_append_right _ (List.mem_append_right _ h)
set_option maxHeartbeats 4000000 in
theorem markFile_any (f : Fl) (lo hi k : Nat) (w : World) (h : FileMine w lo hi f) (hh : hi ≤ w.heap.size) (hs : FileSz f) (hk0 : 0 < k) (hk : k ≤ 16777216) :
    Calls Try.prog 11 #[.agg #[.slice f.ch.A f.ch.l.length f.ch.c, .slice f.st.A f.st.l.length f.st.c, .slice f.no.A f.no.l.length f.no.c], .int .i64 (k : Int)] w fun e w' => e = .returned (.int .i64 ((k + cntFile f : Nat) : Int)) ∧ FileMine w' lo hi (mkFile k f) ∧ ChgF (fileFp f) w w' := by
  obtain ⟨x1, hx1⟩ : ∃ x, f.ch.l.length = x := ⟨_, rfl⟩
  obtain ⟨x2, hx2⟩ : ∃ x, f.st.l.length = x := ⟨_, rfl⟩
  obtain ⟨x3, hx3⟩ : ∃ x, f.no.l.length = x := ⟨_, rfl⟩
  obtain ⟨s2, hs2⟩ : ∃ x, cntL cntRows f.st.l = x := ⟨_, rfl⟩
  obtain ⟨k2, hk2⟩ : ∃ x, k + 4 * x1 = x := ⟨_, rfl⟩
  obtain ⟨k3, hk3⟩ : ∃ x, k2 + s2 = x := ⟨_, rfl⟩
  have b1 := hs.ch
  have b2 := hs.sum
  have b3 := hs.no
  have b4 := hs.st
  rw [hx1] at b1
  rw [hs2] at b2
  rw [hx3] at b3
  rw [hx2] at b4
  have hg : Hid (Bk (w.alloc (.cells #[.slice f.ch.A x1 f.ch.c, .slice f.st.A x2 f.st.c, .slice f.no.A x3 f.no.c] 35)) w.heap.size 35 #[.slice f.ch.A x1 f.ch.c, .slice f.st.A x2 f.st.c, .slice f.no.A x3 f.no.c]) := Bk.new w _ _
  have HM := Lib.hid (h.next (Below.alloc (Below.refl _ _) (Nat.le_refl _) (.cells #[.slice f.ch.A x1 f.ch.c, .slice f.st.A x2 f.st.c, .slice f.no.A x3 f.no.c] 35)))
  have HC0 : Hid (ChgF (fileFp f) w (w.alloc (.cells #[.slice f.ch.A x1 f.ch.c, .slice f.st.A x2 f.st.c, .slice f.no.A x3 f.no.c] 35))) := ChgF.of_below (Below.alloc (Below.refl _ _) (Nat.le_refl _) _)
  have HNI : Hid (∀ b ∈ fileFp f, b ≠ w.heap.size) := fun b hb => by have := h.rng b hb; omega
  have HS := Lib.hid hs
  have X1 := Lib.hid hx1
  have X2 := Lib.hid hx2
  have X3 := Lib.hid hx3
  have S2 := Lib.hid hs2
  have K2 := Lib.hid hk2
  have K3 := Lib.hid hk3
  have hk2b : k2 ≤ 33554432 := by omega
  have hk20 : 0 < k2 := by omega
  have hk3b : k3 ≤ 67108864 := by omega
  have hk30 : 0 < k3 := by omega
  rw [hx1, hx2, hx3]
  clear h hs hx1 hx2 hx3 hs2 hk2 hk3
  go_enter Try.func11, Try.ntmps11
  go_wp2_with fail
  have hc := markCh_any f.ch lo hi k _ HM.out.ch HS.out.ch hk0 (by omega)
  rw [show f.ch.l.length = x1 from X1.out, show k + 4 * x1 = k2 from K2.out] at hc
  refine hc.mono ?_
  rintro e w2 ⟨rfl, hm2, hc2⟩
  have HM2 := Lib.hid hm2
  have HC2 := Lib.hid hc2
  have HG2 := Lib.hid (hc2.bk hg.out fun hm => HNI.out _ (mem_fp1 hm) rfl)
  have e1 := HG2.out.cell 1
  have z2 := HG2.out.lt
  clear hc hm2 hc2
  go_wp2_with fail
  have hc := markRowsS_any f.st.A f.st.l.length f.st.c k2 f.st.l lo hi w2 (HM.out.st.chg stK_ok HC2.out fun b hb hm => HM.out.d1 b hm hb) rfl HS.out.st HS.out.rows HS.out.sum (by omega)
  rw [show f.st.l.length = x2 from X2.out, show cntL cntRows f.st.l = s2 from S2.out, show k2 + s2 = k3 from K3.out] at hc
  refine hc.mono ?_
  rintro e w3 ⟨rfl, hm3, hc3⟩
  have HM3 := Lib.hid hm3
  have HC3 : Hid (ChgF (stK.fp f.st) w2 w3) := hc3
  have HG3 := Lib.hid (HC3.out.bk HG2.out fun hm => HNI.out _ (mem_fp2 hm) rfl)
  have e2 := HG3.out.cell 2
  have z3 := HG3.out.lt
  clear hc hm3 hc3 e1
  go_wp2_with fail
  have hno3 : Mine nosK w3 lo hi f.no := (HM.out.no.chg nosK_ok HC2.out fun b hb hm => HM.out.d2 b hm hb).chg nosK_ok HC3.out fun b hb hm => HM.out.d3 b hm hb
  have hc := markNo_any f.no lo hi k3 w3 hno3 HS.out.no hk30 (by omega)
  rw [show f.no.l.length = x3 from X3.out] at hc
  refine hc.mono ?_
  rintro e w4 ⟨rfl, hm4, hc4⟩
  have HM4 := Lib.hid hm4
  have HC4 := Lib.hid hc4
  clear hc hm4 hc4 e2 hno3
  go_wp2_with fail
  go_ret
  have hfp2 : stK.fp (mkSt k2 f.st) = stK.fp f.st := mkSt_fp _ _
  refine ⟨ret_int (by unfold cntFile; rw [X1.out, S2.out, X3.out]; have := K2.out; have := K3.out; omega), ?_, ((HC0.out.trans (HC2.out.mono fun b hb => mem_fp1 hb)).trans (HC3.out.mono fun b hb => mem_fp2 hb)).trans (HC4.out.mono fun b hb => mem_fp3 hb)⟩
  have hF : mkFile k f = ⟨mkCh k f.ch, mkSt k2 f.st, mkNo k3 f.no⟩ := by unfold mkFile; rw [X1.out, S2.out, K2.out, K3.out]
  rw [hF]
  have hst : Mine stK w3 lo hi (mkSt k2 f.st) := HM3.out
  refine ⟨(HM2.out.chg chsK_ok HC3.out fun b hb hm => ?_).chg chsK_ok HC4.out fun b hb hm => ?_, hst.chg stK_ok HC4.out fun b hb hm => ?_, HM4.out, fun b hb => ?_, fun b hb => ?_, fun b hb => ?_⟩
  · rw [mkCh_fp] at hb; exact HM.out.d1 b hb hm
  · rw [mkCh_fp] at hb; exact HM.out.d2 b hb hm
  · rw [hfp2] at hb; exact HM.out.d3 b hb hm
  · rw [mkCh_fp] at hb; show b ∉ stK.fp (mkSt k2 f.st); rw [hfp2]; exact HM.out.d1 b hb
  · rw [mkCh_fp] at hb; show b ∉ nosK.fp (mkNo k3 f.no); rw [mkNo_fp]; exact HM.out.d2 b hb
  · have hb2 : b ∈ stK.fp (mkSt k2 f.st) := hb
    rw [hfp2] at hb2; show b ∉ nosK.fp (mkNo k3 f.no); rw [mkNo_fp]; exact HM.out.d3 b hb2
theorem mkCh_rd {w : World} {k : Nat} {s : Sl Ch} (h : chsK.rd w (mkCh k s)) : Rd w s.A s.l.length 4 (rowOf chC (marksC k s.l.length)) := by
  have h1 : Rd w s.A (marksC k s.l.length).length 4 (rowOf chC (marksC k s.l.length)) := h.1
  rwa [marksC_len] at h1
theorem mkNo_rd {w : World} {k : Nat} {s : Sl No} (h : nosK.rd w (mkNo k s)) : Rd w s.A s.l.length 3 (rowOf noC (marksN k s.l.length)) := by
  have h1 : Rd w s.A (marksN k s.l.length).length 3 (rowOf noC (marksN k s.l.length)) := h.1
  rwa [marksN_len] at h1
set_option maxHeartbeats 4000000 in
theorem heldFile_any (f : Fl) (k : Nat) (w : World) (h : FileRd w (mkFile k f)) (hs : FileSz f) (hk0 : 0 < k) (hk : k ≤ 16777216) :
    Calls Try.prog 12 #[.agg #[.slice f.ch.A f.ch.l.length f.ch.c, .slice f.st.A f.st.l.length f.st.c, .slice f.no.A f.no.l.length f.no.c], .int .i64 (k : Int)] w fun e w' => e = .returned (.int .i64 ((k + cntFile f : Nat) : Int)) ∧ Below w.heap.size w w' := by
  obtain ⟨x1, hx1⟩ : ∃ x, f.ch.l.length = x := ⟨_, rfl⟩
  obtain ⟨x2, hx2⟩ : ∃ x, f.st.l.length = x := ⟨_, rfl⟩
  obtain ⟨x3, hx3⟩ : ∃ x, f.no.l.length = x := ⟨_, rfl⟩
  obtain ⟨s2, hs2⟩ : ∃ x, cntL cntRows f.st.l = x := ⟨_, rfl⟩
  obtain ⟨k2, hk2⟩ : ∃ x, k + 4 * x1 = x := ⟨_, rfl⟩
  obtain ⟨k3, hk3⟩ : ∃ x, k2 + s2 = x := ⟨_, rfl⟩
  have b1 := hs.ch
  have b2 := hs.sum
  have b3 := hs.no
  have b4 := hs.st
  rw [hx1] at b1
  rw [hs2] at b2
  rw [hx3] at b3
  rw [hx2] at b4
  have hF : mkFile k f = ⟨mkCh k f.ch, mkSt k2 f.st, mkNo k3 f.no⟩ := by unfold mkFile; rw [hx1, hs2, hk2, hk3]
  rw [hF] at h
  have HB0 : Hid (Below w.heap.size w (w.alloc (.cells #[.slice f.ch.A x1 f.ch.c, .slice f.st.A x2 f.st.c, .slice f.no.A x3 f.no.c] 35))) := Below.alloc (Below.refl _ _) (Nat.le_refl _) _
  have HM := Lib.hid h
  have HS := Lib.hid hs
  have X1 := Lib.hid hx1
  have X2 := Lib.hid hx2
  have X3 := Lib.hid hx3
  have S2 := Lib.hid hs2
  have K2 := Lib.hid hk2
  have K3 := Lib.hid hk3
  have hk2b : k2 ≤ 33554432 := by omega
  have hk20 : 0 < k2 := by omega
  have hk3b : k3 ≤ 67108864 := by omega
  have hk30 : 0 < k3 := by omega
  rw [hx1, hx2, hx3]
  clear h hs hx1 hx2 hx3 hs2 hk2 hk3 hF
  go_enter Try.func12, Try.ntmps12
  go_wp2_with fail
  have hr := mkCh_rd (chsK_ok.below HM.out.ch HB0.out)
  rw [show f.ch.l.length = x1 from X1.out] at hr
  have hc := heldChannelS_any f.ch.A x1 f.ch.c k _ hr b1 hk0 (by omega)
  rw [show k + 4 * x1 = k2 from K2.out] at hc
  refine hc.mono ?_
  rintro e w2 ⟨rfl, hb2⟩
  have HB2 : Hid (Below w.heap.size w w2) := Below.next HB0.out hb2
  obtain ⟨hc2, hf2⟩ := bcell hb2
  have hz2 := hb2.size
  simp only [World.size_alloc] at hz2
  clear hc hb2 hr
  go_wp2_with fail
  have hr : stK.rd w2 (mkSt k2 f.st) := stK_ok.below HM.out.st HB2.out
  have hc := heldRowsS_any f.st.A f.st.l.length f.st.c k2 f.st.l w2 hr rfl HS.out.st HS.out.rows HS.out.sum (by omega)
  rw [show f.st.l.length = x2 from X2.out, show cntL cntRows f.st.l = s2 from S2.out, show k2 + s2 = k3 from K3.out] at hc
  refine hc.mono ?_
  rintro e w3 ⟨rfl, rfl⟩
  clear hc hr
  go_wp2_with fail
  have hr := mkNo_rd (nosK_ok.below HM.out.no HB2.out)
  rw [show f.no.l.length = x3 from X3.out] at hr
  have hc := heldNoteS_any f.no.A x3 f.no.c k3 _ hr b3 hk30 (by omega)
  refine hc.mono ?_
  rintro e w4 ⟨rfl, hb4⟩
  have HB4 : Hid (Below w.heap.size w w4) := Below.next HB2.out hb4
  clear hc hb4 hr
  go_wp2_with fail
  go_ret
  exact ⟨ret_int (by unfold cntFile; rw [X1.out, S2.out, X3.out]; have := K2.out; have := K3.out; omega), HB4.out⟩
end Go.Proofs.Ytmdmjnhebbhjbaa
namespace Go.Proofs.Ytmdmjnhebbhjbaa
set_option linter.unusedSimpArgs false
set_option linter.unusedVariables false
set_option maxRecDepth 20000
open Go.RowKit
open Go.ChangeShapes Go.WideShapes Go.Deep Go.Joins

def cntI (l : List (List Int)) : Nat := (l.map List.length).sum
def cntJ (l : List (List (List Int))) : Nat := (l.map cntI).sum
/-- how long the parts of a plain file are -/
structure PlSz (p : FlP) : Prop where
  ch : p.ch.length ≤ 1048576
  st : p.st.length ≤ 1048576
  rows : ∀ s ∈ p.st, s.length ≤ 1048576 ∧ (∀ r ∈ s, r.length ≤ 1048576) ∧ cntI s ≤ 16777216
  sum : cntJ p.st ≤ 16777216
  no : p.no.length ≤ 1048576
def cntPl (p : FlP) : Nat := 4 * p.ch.length + cntJ p.st + 3 * p.no.length
theorem cntI_is (s : Sl (Sl Int)) : cntL cntRow s.l = cntI (rowsK.pl s) := by
  show (s.l.map cntRow).sum = ((s.l.map rowK.pl).map List.length).sum
  rw [List.map_map]
  congr 1
  apply List.map_congr_left
  intro a _
  show a.l.length = (rowK.pl a).length
  rw [rowK_pl]
theorem cntJ_is (s : Sl (Sl (Sl Int))) : cntL cntRows s.l = cntJ (stK.pl s) := by
  show (s.l.map cntRows).sum = ((s.l.map rowsK.pl).map cntI).sum
  rw [List.map_map]
  congr 1
  apply List.map_congr_left
  intro a _
  exact cntI_is a
theorem pl_length {f : Fl} {p : FlP} (h : filePl f = p) : f.ch.l.length = p.ch.length ∧ f.st.l.length = p.st.length ∧ f.no.l.length = p.no.length := by
  subst h
  refine ⟨rfl, ?_, rfl⟩
  show _ = (f.st.l.map rowsK.pl).length
  rw [List.length_map]
theorem FileSz.of_pl {f : Fl} {p : FlP} (h : filePl f = p) (hs : PlSz p) : FileSz f := by
  obtain ⟨h1, h2, h3⟩ := pl_length h
  subst h
  refine ⟨by rw [h1]; exact hs.ch, by rw [h2]; exact hs.st, fun s hs2 => ?_, by rw [cntJ_is]; exact hs.sum, by rw [h3]; exact hs.no⟩
  obtain ⟨a1, a2, a3⟩ := hs.rows (rowsK.pl s) (List.mem_map_of_mem hs2)
  refine ⟨?_, fun r hr => ?_, by rw [cntI_is]; exact a3⟩
  · have e : (rowsK.pl s).length = s.l.length := by show (s.l.map rowK.pl).length = _; rw [List.length_map]
    omega
  · have := a2 (rowK.pl r) (List.mem_map_of_mem hr)
    rw [rowK_pl] at this
    exact this
theorem cnt_of_pl {f : Fl} {p : FlP} (h : filePl f = p) : cntFile f = cntPl p := by
  obtain ⟨h1, h2, h3⟩ := pl_length h
  subst h
  unfold cntFile cntPl
  rw [h1, h3, cntJ_is]
  rfl
end Go.Proofs.Ytmdmjnhebbhjbaa
namespace Go.Proofs.Ytmdmjnhebbhjbaa
set_option linter.unusedSimpArgs false
set_option linter.unusedVariables false
set_option maxRecDepth 20000
open Go.RowKit
open Go.ChangeShapes Go.WideShapes Go.Deep Go.Joins

/-- an element that lies behind all of the slice's blocks is pushed -/
theorem Mine.push {α β : Type} {K : Kd α β} (hK : K.Ok) {T : TypeId} {wi W4 w5 : World} {lo hi g cap : Nat} {A : Option Addr} {c : Nat} {l : List α} {a : α} (h : Mine (K.sl T) wi lo hi ⟨A, c, l⟩) (ha : Mine K wi hi wi.heap.size a) (hhi : hi ≤ wi.heap.size) (hlo : lo ≤ hi)
    (h4 : Below wi.heap.size wi W4) (hgrow : W4.grownBy w5 (Value.slice A l.length c).ownBlock) (hat : (Value.slice A l.length c).ownBlock = some g ∨ g = W4.heap.size) (hlt : g < w5.heap.size) {B : Nat} (hown : Own K.cell K.E K.size w5 B (.slice (some ⟨g, 0, none⟩) (l.length + 1) cap) (l ++ [a])) :
    Mine (K.sl T) w5 lo w5.heap.size ⟨some ⟨g, 0, none⟩, cap, l ++ [a]⟩ := by
  have hsz := h4.size
  have hsz5 := hgrow.size
  have hnd := List.nodup_append.1 h.apart
  have htop : ∀ b, (Value.slice A l.length c).ownBlock = some b → b < hi ∧ lo ≤ b := fun b hb => by
    have := h.rng b (Kd.fp_top (s := ⟨A, c, l⟩) hb)
    omega
  have hin : ∀ x ∈ l, ∀ b ∈ K.fp x, lo ≤ b ∧ b < hi := fun x hx b hb => h.rng b (Kd.fp_in (s := ⟨A, c, l⟩) hx hb)
  have hne : ∀ x ∈ l, ∀ b ∈ K.fp x, (Value.slice A l.length c).ownBlock ≠ some b := fun x hx b hb e =>
    hnd.2.2 b (by show b ∈ (Value.slice A l.length c).ownBlock.toList; rw [e]; simp) b (List.mem_flatMap.2 ⟨x, hx, hb⟩) rfl
  have hblk : ∀ b, b < wi.heap.size → (Value.slice A l.length c).ownBlock ≠ some b → w5.heap[b]? = wi.heap[b]? := fun b hb hn => by
    rw [hgrow.block b (by omega) (fun e => hn e.symm), h4.block b hb]
  have e1 : (Sl.val ⟨some ⟨g, 0, none⟩, cap, l ++ [a]⟩) = Value.slice (some ⟨g, 0, none⟩) (l.length + 1) cap := by simp [Sl.val]
  have hfp : (K.sl T).fp ⟨some ⟨g, 0, none⟩, cap, l ++ [a]⟩ = g :: (l.flatMap K.fp ++ K.fp a) := by
    show (Value.slice (some ⟨g, 0, none⟩) (l ++ [a]).length cap).ownBlock.toList ++ (l ++ [a]).flatMap K.fp = _
    simp [Value.ownBlock]
  have hgl : ∀ x ∈ l, g ∉ K.fp x := fun x hx hm => by
    rcases hat with h1 | h1
    · exact hne x hx g hm h1
    · have h2 := hin x hx g hm; omega
  have hga : g ∉ K.fp a := fun hm => by
    have h2 := ha.rng g hm
    rcases hat with h1 | h1
    · have h3 := htop g h1; omega
    · omega
  refine ⟨⟨?_, fun x hx => ?_⟩, ?_, ?_⟩
  · rw [e1]; exact hown.mono (Nat.zero_le _)
  · rw [List.mem_append, List.mem_singleton] at hx
    rcases hx with hx | rfl
    · exact hK.keep (h.own.2 x hx) fun b hb => hblk b (by have := hin x hx b hb; omega) (hne x hx b hb)
    · exact hK.keep ha.own fun b hb => hblk b (ha.rng b hb).2 fun e => by have h1 := htop b e; have h2 := ha.rng b hb; omega
  · rw [hfp, List.nodup_cons, List.nodup_append]
    refine ⟨fun hm => ?_, hnd.2.1, ha.apart, fun x hx y hy e => ?_⟩
    · rw [List.mem_append] at hm
      rcases hm with hm | hm
      · obtain ⟨x, hx, hb⟩ := List.mem_flatMap.1 hm
        exact hgl x hx hb
      · exact hga hm
    · subst e
      obtain ⟨z, hz, hb⟩ := List.mem_flatMap.1 hx
      have h1 := hin z hz x hb
      have h2 := ha.rng x hy
      omega
  · rw [hfp]
    intro b hb
    rw [List.mem_cons, List.mem_append] at hb
    rcases hb with rfl | hb | hb
    · refine ⟨?_, hlt⟩
      rcases hat with h1 | h1
      · exact (htop b h1).2
      · omega
    · obtain ⟨z, hz, hb⟩ := List.mem_flatMap.1 hb
      have h1 := hin z hz b hb
      omega
    · have h2 := ha.rng b hb
      omega
/-- a new row of flat values -/
theorem Mine.fresh {α : Type} {f : α → List Value} {size : Nat} {E T : TypeId} (hf : ∀ a, (f a).length = size) {w : World} {g lo hi : Nat} {l : List α} (h : Bk w g E (rowOf f l).toArray) (hm : l.length ≤ maxLen) (hlo : lo ≤ g) (hhi : g < hi) :
    Mine ((Kd.flat f size E).sl T) w lo hi ⟨some ⟨g, 0, none⟩, l.length, l⟩ := by
  have z : ∀ L : List α, L.flatMap (fun _ => ([] : List Nat)) = [] := fun L => by simp
  have hfp : ((Kd.flat f size E).sl T).fp ⟨some ⟨g, 0, none⟩, l.length, l⟩ = [g] := by
    show (Value.slice (some ⟨g, 0, none⟩) l.length l.length).ownBlock.toList ++ l.flatMap (fun _ => []) = [g]
    rw [z]
    simp [Value.ownBlock]
  refine ⟨⟨Own.of_bk h hf hm (Nat.zero_le _), fun a _ => trivial⟩, by rw [hfp]; simp, fun b hb => ?_⟩
  rw [hfp, List.mem_singleton] at hb
  omega
end Go.Proofs.Ytmdmjnhebbhjbaa
