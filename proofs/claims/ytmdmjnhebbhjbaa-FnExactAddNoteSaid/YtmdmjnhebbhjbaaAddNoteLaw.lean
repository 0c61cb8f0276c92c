/-
  The law of AddNote returns true: program and reference give the same file, or refuse alike; the file is the caller's own.
-/
import Derived.Test.YtmdmjnhebbhjbaaAnI
import Derived.Test.YtmdmjnhebbhjbaaAnS
import Derived.Test.YtmdmjnhebbhjbaaFileL
import Derived.Test.YtmdmjnhebbhjbaaFileW
namespace Go.Proofs.Ytmdmjnhebbhjbaa
set_option linter.unusedSimpArgs false
set_option linter.unusedVariables false
set_option maxRecDepth 20000
open Go.RowKit
open Go.ChangeShapes Go.WideShapes Go.Deep Go.Joins

theorem iAddNote_L (f : Fl) (p q : FlP) (n : No) (b : Bool) (code : Int) (w : World) (h : FileRd w f) (hp : filePl f = p) (hs : PlSz p) (ht : PlTx p) (hx : n.text.size ≤ 1048576) (hb : Is b (FileOk p)) (hR : anR b p n = (q, code)) :
    Calls Try.prog 9 #[.agg #[.slice f.ch.A f.ch.l.length f.ch.c, .slice f.st.A f.st.l.length f.st.c, .slice f.no.A f.no.l.length f.no.c], .agg #[.int .i64 n.fr, .int .i64 n.til, .string n.text]] w fun e w' => ∃ g : Fl, e = .returned (.tuple #[.agg #[.slice g.ch.A g.ch.l.length g.ch.c, .slice g.st.A g.st.l.length g.st.c, .slice g.no.A g.no.l.length g.no.c], .int .i64 code]) ∧ filePl g = q ∧ FileMine w' w.heap.size w'.heap.size g ∧ Below w.heap.size w w' := by
  obtain ⟨⟨A1, c1, cs⟩, ⟨A2, c2, ss⟩, ⟨A3, c3, ns⟩⟩ := f
  exact iAddNote_go A1 A2 A3 c1 c2 c3 cs ss ns p q n b code w h hp hs ht hx hb hR
theorem sAddNote_L (f : Fl) (p q : FlP) (n : No) (b : Bool) (code : Int) (w : World) (h : FileRd w f) (hp : filePl f = p) (hs : PlSz p) (ht : PlTx p) (hx : n.text.size ≤ 1048576) (hb : Is b (FileOk p)) (hR : anR b p n = (q, code)) :
    Calls Try.prog 6 #[.agg #[.slice f.ch.A f.ch.l.length f.ch.c, .slice f.st.A f.st.l.length f.st.c, .slice f.no.A f.no.l.length f.no.c], .agg #[.int .i64 n.fr, .int .i64 n.til, .string n.text]] w fun e w' => ∃ g : Fl, e = .returned (.tuple #[.agg #[.slice g.ch.A g.ch.l.length g.ch.c, .slice g.st.A g.st.l.length g.st.c, .slice g.no.A g.no.l.length g.no.c], .int .i64 code]) ∧ filePl g = q ∧ FileMine w' w.heap.size w'.heap.size g ∧ Below w.heap.size w w' := by
  obtain ⟨⟨A1, c1, cs⟩, ⟨A2, c2, ss⟩, ⟨A3, c3, ns⟩⟩ := f
  exact sAddNote_go A1 A2 A3 c1 c2 c3 cs ss ns p q n b code w h hp hs ht hx hb hR

set_option maxHeartbeats 16000000 in
set_option maxRecDepth 100000 in
theorem AddNote_walk {w : World} (f0 : Fl) (hg0 : FileGood w f0) (n : No) (hsl : n.text.size ≤ 9223372036854775807) :
    Calls Try.prog 3 #[.agg #[.slice f0.ch.A f0.ch.l.length f0.ch.c, .slice f0.st.A f0.st.l.length f0.st.c, .slice f0.no.A f0.no.l.length f0.no.c], .agg #[.int .i64 n.fr, .int .i64 n.til, .string n.text]] w (Yes w) := by
  have HF0_0 := Lib.hid hg0.1
  have hcap0 := hg0.2
  clear hg0
  by_cases hle0 : flSz f0 ≤ 1048576
  rotate_left
  · go_enter Try.func3, Try.ntmps3
    go_wp2_with fail
    refine (szFile_no f0 1048576 _ (by first | exact HF0_0.out | exact HF0_0.out.alloc _ | exact (HF0_0.out.alloc _).alloc _ | exact ((HF0_0.out.alloc _).alloc _).alloc _ | exact HF0_0.out.drew | exact (HF0_0.out.drew).alloc _) hcap0 (by omega) hle0).mono ?_
    rintro e w1 ⟨rfl, hb1⟩
    have hB1 : Below w.heap.size w w1 := Below.next (by go_grown) hb1
    have hT1 : Below w.heap.size w w1 := hB1
    have hz1 := hb1.size
    (try simp only [World.size_alloc, World.size_drew] at hz1)
    have bx0_l1 : w.heap.size < w1.heap.size := by omega
    have bx0_0_1 : w1.cell? ⟨w.heap.size, 0, none⟩ = some (.slice f0.ch.A f0.ch.l.length f0.ch.c) := (hb1.cell (p := ⟨w.heap.size, 0, none⟩) (by (try simp only [World.size_alloc, World.size_drew]); omega)).trans (by go_simp)
    have bx0_1_1 : w1.cell? ⟨w.heap.size, 1, none⟩ = some (.slice f0.st.A f0.st.l.length f0.st.c) := (hb1.cell (p := ⟨w.heap.size, 1, none⟩) (by (try simp only [World.size_alloc, World.size_drew]); omega)).trans (by go_simp)
    have bx0_2_1 : w1.cell? ⟨w.heap.size, 2, none⟩ = some (.slice f0.no.A f0.no.l.length f0.no.c) := (hb1.cell (p := ⟨w.heap.size, 2, none⟩) (by (try simp only [World.size_alloc, World.size_drew]); omega)).trans (by go_simp)
    have bn_l1 : w.heap.size + 1 < w1.heap.size := by omega
    have bn_0_1 : w1.cell? ⟨w.heap.size + 1, 0, none⟩ = some (.int .i64 n.fr) := (hb1.cell (p := ⟨w.heap.size + 1, 0, none⟩) (by (try simp only [World.size_alloc, World.size_drew]); omega)).trans (by go_simp)
    have bn_1_1 : w1.cell? ⟨w.heap.size + 1, 1, none⟩ = some (.int .i64 n.til) := (hb1.cell (p := ⟨w.heap.size + 1, 1, none⟩) (by (try simp only [World.size_alloc, World.size_drew]); omega)).trans (by go_simp)
    have bn_2_1 : w1.cell? ⟨w.heap.size + 1, 2, none⟩ = some (.string n.text) := (hb1.cell (p := ⟨w.heap.size + 1, 2, none⟩) (by (try simp only [World.size_alloc, World.size_drew]); omega)).trans (by go_simp)
    have HF0_1 := Lib.hid (HF0_0.out.below hT1)
    go_wp2_with fail
    go_ret
    exact ⟨rfl, by go_grown⟩
  have HLE0 := Lib.hid hle0
  obtain ⟨r0, hr0⟩ : ∃ r, 1048576 - flSz f0 = r := ⟨_, rfl⟩
  have hrb0 : r0 ≤ 1048576 := by omega
  have HR0 := Lib.hid hr0
  obtain ⟨hsz0, htx0, _⟩ := flSz_pl (f := f0) (by omega)
  obtain ⟨p0, hp0⟩ : ∃ p, filePl f0 = p := ⟨_, rfl⟩
  rw [hp0] at hsz0 htx0
  have HSZp0 := Lib.hid hsz0
  have HTXp0 := Lib.hid htx0
  have HP0 := Lib.hid hp0
  clear hsz0 htx0 hp0 hle0
  obtain ⟨mmp0, hmm0⟩ : ∃ mm, 1 + cntPl p0 = mm := ⟨_, rfl⟩
  have hmb0 : mmp0 ≤ 33554433 := by have := HSZp0.out.cnt; omega
  have HMMp0 := Lib.hid hmm0
  clear hmm0
  obtain ⟨v, hv⟩ := bool_of (FileOk p0)
  have HV : Is v (FileOk p0) := hv
  clear hv
  obtain ⟨z, hz⟩ : ∃ z, noSz n = z := ⟨_, rfl⟩
  have hzx : n.text.size = z := hz
  have HZ := Lib.hid hz
  clear hz
  by_cases hle1 : z ≤ r0
  rotate_left
  · go_enter Try.func3, Try.ntmps3
    go_wp2_with fail
    refine (szFile_ok f0 1048576 _ (by first | exact HF0_0.out | exact HF0_0.out.alloc _ | exact (HF0_0.out.alloc _).alloc _ | exact ((HF0_0.out.alloc _).alloc _).alloc _ | exact HF0_0.out.drew | exact (HF0_0.out.drew).alloc _) hcap0 (by omega) HLE0.out HR0.out).mono ?_
    rintro e w1 ⟨rfl, hb1⟩
    have hB1 : Below w.heap.size w w1 := Below.next (by go_grown) hb1
    have hT1 : Below w.heap.size w w1 := hB1
    have hz1 := hb1.size
    (try simp only [World.size_alloc, World.size_drew] at hz1)
    have bx0_l1 : w.heap.size < w1.heap.size := by omega
    have bx0_0_1 : w1.cell? ⟨w.heap.size, 0, none⟩ = some (.slice f0.ch.A f0.ch.l.length f0.ch.c) := (hb1.cell (p := ⟨w.heap.size, 0, none⟩) (by (try simp only [World.size_alloc, World.size_drew]); omega)).trans (by go_simp)
    have bx0_1_1 : w1.cell? ⟨w.heap.size, 1, none⟩ = some (.slice f0.st.A f0.st.l.length f0.st.c) := (hb1.cell (p := ⟨w.heap.size, 1, none⟩) (by (try simp only [World.size_alloc, World.size_drew]); omega)).trans (by go_simp)
    have bx0_2_1 : w1.cell? ⟨w.heap.size, 2, none⟩ = some (.slice f0.no.A f0.no.l.length f0.no.c) := (hb1.cell (p := ⟨w.heap.size, 2, none⟩) (by (try simp only [World.size_alloc, World.size_drew]); omega)).trans (by go_simp)
    have bn_l1 : w.heap.size + 1 < w1.heap.size := by omega
    have bn_0_1 : w1.cell? ⟨w.heap.size + 1, 0, none⟩ = some (.int .i64 n.fr) := (hb1.cell (p := ⟨w.heap.size + 1, 0, none⟩) (by (try simp only [World.size_alloc, World.size_drew]); omega)).trans (by go_simp)
    have bn_1_1 : w1.cell? ⟨w.heap.size + 1, 1, none⟩ = some (.int .i64 n.til) := (hb1.cell (p := ⟨w.heap.size + 1, 1, none⟩) (by (try simp only [World.size_alloc, World.size_drew]); omega)).trans (by go_simp)
    have bn_2_1 : w1.cell? ⟨w.heap.size + 1, 2, none⟩ = some (.string n.text) := (hb1.cell (p := ⟨w.heap.size + 1, 2, none⟩) (by (try simp only [World.size_alloc, World.size_drew]); omega)).trans (by go_simp)
    have HF0_1 := Lib.hid (HF0_0.out.below hT1)
    go_wp2_with fail
    refine (szNote_no n r0 _ hsl hrb0 HZ hle1).mono ?_
    rintro e w2 ⟨rfl, hb2⟩
    have hB2 : Below w1.heap.size w1 w2 := Below.next (by go_grown) hb2
    have hT2 : Below w.heap.size w w2 := Below.next hT1 hB2
    have hz2 := hb2.size
    (try simp only [World.size_alloc, World.size_drew] at hz2)
    have bx0_l2 : w.heap.size < w2.heap.size := Nat.lt_of_lt_of_le bx0_l1 hB2.size
    have bx0_0_2 : w2.cell? ⟨w.heap.size, 0, none⟩ = some (.slice f0.ch.A f0.ch.l.length f0.ch.c) := (hB2.cell (p := ⟨w.heap.size, 0, none⟩) bx0_l1).trans bx0_0_1
    have bx0_1_2 : w2.cell? ⟨w.heap.size, 1, none⟩ = some (.slice f0.st.A f0.st.l.length f0.st.c) := (hB2.cell (p := ⟨w.heap.size, 1, none⟩) bx0_l1).trans bx0_1_1
    have bx0_2_2 : w2.cell? ⟨w.heap.size, 2, none⟩ = some (.slice f0.no.A f0.no.l.length f0.no.c) := (hB2.cell (p := ⟨w.heap.size, 2, none⟩) bx0_l1).trans bx0_2_1
    have bn_l2 : w.heap.size + 1 < w2.heap.size := Nat.lt_of_lt_of_le bn_l1 hB2.size
    have bn_0_2 : w2.cell? ⟨w.heap.size + 1, 0, none⟩ = some (.int .i64 n.fr) := (hB2.cell (p := ⟨w.heap.size + 1, 0, none⟩) bn_l1).trans bn_0_1
    have bn_1_2 : w2.cell? ⟨w.heap.size + 1, 1, none⟩ = some (.int .i64 n.til) := (hB2.cell (p := ⟨w.heap.size + 1, 1, none⟩) bn_l1).trans bn_1_1
    have bn_2_2 : w2.cell? ⟨w.heap.size + 1, 2, none⟩ = some (.string n.text) := (hB2.cell (p := ⟨w.heap.size + 1, 2, none⟩) bn_l1).trans bn_2_1
    clear bx0_l1 bx0_0_1 bx0_1_1 bx0_2_1 bn_l1 bn_0_1 bn_1_1 bn_2_1
    have HF0_2 := Lib.hid (HF0_0.out.below hT2)
    clear HF0_1
    go_wp2_with fail
    go_ret
    exact ⟨rfl, by go_grown⟩
  have hx : n.text.size ≤ 1048576 := by omega
  clear hzx
  have HLE1 := Lib.hid hle1
  obtain ⟨r1, hr1⟩ : ∃ r, r0 - z = r := ⟨_, rfl⟩
  have HR1 := Lib.hid hr1
  clear hr1 hle1
  obtain ⟨⟨q, code⟩, hr⟩ : ∃ r, anR v p0 n = r := ⟨_, rfl⟩
  have HSZq : Hid (PlSz q) := by have h := anR_sz (b := v) (n := n) HSZp0.out; rw [hr] at h; exact h
  obtain ⟨mmq, hmmq⟩ : ∃ mm, 1 + cntPl q = mm := ⟨_, rfl⟩
  have hmbq : mmq ≤ 33554433 := by have := HSZq.out.cnt; omega
  have HMMq := Lib.hid hmmq
  have HCR := Lib.hid hr
  clear hmmq hr
  go_enter Try.func3, Try.ntmps3
  go_wp2_with fail
  refine (szFile_ok f0 1048576 _ (by first | exact HF0_0.out | exact HF0_0.out.alloc _ | exact (HF0_0.out.alloc _).alloc _ | exact ((HF0_0.out.alloc _).alloc _).alloc _ | exact HF0_0.out.drew | exact (HF0_0.out.drew).alloc _) hcap0 (by omega) HLE0.out HR0.out).mono ?_
  rintro e w1 ⟨rfl, hb1⟩
  have hB1 : Below w.heap.size w w1 := Below.next (by go_grown) hb1
  have hT1 : Below w.heap.size w w1 := hB1
  have hz1 := hb1.size
  (try simp only [World.size_alloc, World.size_drew] at hz1)
  have bx0_l1 : w.heap.size < w1.heap.size := by omega
  have bx0_0_1 : w1.cell? ⟨w.heap.size, 0, none⟩ = some (.slice f0.ch.A f0.ch.l.length f0.ch.c) := (hb1.cell (p := ⟨w.heap.size, 0, none⟩) (by (try simp only [World.size_alloc, World.size_drew]); omega)).trans (by go_simp)
  have bx0_1_1 : w1.cell? ⟨w.heap.size, 1, none⟩ = some (.slice f0.st.A f0.st.l.length f0.st.c) := (hb1.cell (p := ⟨w.heap.size, 1, none⟩) (by (try simp only [World.size_alloc, World.size_drew]); omega)).trans (by go_simp)
  have bx0_2_1 : w1.cell? ⟨w.heap.size, 2, none⟩ = some (.slice f0.no.A f0.no.l.length f0.no.c) := (hb1.cell (p := ⟨w.heap.size, 2, none⟩) (by (try simp only [World.size_alloc, World.size_drew]); omega)).trans (by go_simp)
  have bn_l1 : w.heap.size + 1 < w1.heap.size := by omega
  have bn_0_1 : w1.cell? ⟨w.heap.size + 1, 0, none⟩ = some (.int .i64 n.fr) := (hb1.cell (p := ⟨w.heap.size + 1, 0, none⟩) (by (try simp only [World.size_alloc, World.size_drew]); omega)).trans (by go_simp)
  have bn_1_1 : w1.cell? ⟨w.heap.size + 1, 1, none⟩ = some (.int .i64 n.til) := (hb1.cell (p := ⟨w.heap.size + 1, 1, none⟩) (by (try simp only [World.size_alloc, World.size_drew]); omega)).trans (by go_simp)
  have bn_2_1 : w1.cell? ⟨w.heap.size + 1, 2, none⟩ = some (.string n.text) := (hb1.cell (p := ⟨w.heap.size + 1, 2, none⟩) (by (try simp only [World.size_alloc, World.size_drew]); omega)).trans (by go_simp)
  have HF0_1 := Lib.hid (HF0_0.out.below hT1)
  go_wp2_with fail
  refine (szNote_ok n r0 _ hsl hrb0 HZ HLE1.out).mono ?_
  rintro e w2 ⟨rfl, hb2⟩
  have hB2 : Below w1.heap.size w1 w2 := Below.next (by go_grown) hb2
  have hT2 : Below w.heap.size w w2 := Below.next hT1 hB2
  have hz2 := hb2.size
  (try simp only [World.size_alloc, World.size_drew] at hz2)
  have bx0_l2 : w.heap.size < w2.heap.size := Nat.lt_of_lt_of_le bx0_l1 hB2.size
  have bx0_0_2 : w2.cell? ⟨w.heap.size, 0, none⟩ = some (.slice f0.ch.A f0.ch.l.length f0.ch.c) := (hB2.cell (p := ⟨w.heap.size, 0, none⟩) bx0_l1).trans bx0_0_1
  have bx0_1_2 : w2.cell? ⟨w.heap.size, 1, none⟩ = some (.slice f0.st.A f0.st.l.length f0.st.c) := (hB2.cell (p := ⟨w.heap.size, 1, none⟩) bx0_l1).trans bx0_1_1
  have bx0_2_2 : w2.cell? ⟨w.heap.size, 2, none⟩ = some (.slice f0.no.A f0.no.l.length f0.no.c) := (hB2.cell (p := ⟨w.heap.size, 2, none⟩) bx0_l1).trans bx0_2_1
  have bn_l2 : w.heap.size + 1 < w2.heap.size := Nat.lt_of_lt_of_le bn_l1 hB2.size
  have bn_0_2 : w2.cell? ⟨w.heap.size + 1, 0, none⟩ = some (.int .i64 n.fr) := (hB2.cell (p := ⟨w.heap.size + 1, 0, none⟩) bn_l1).trans bn_0_1
  have bn_1_2 : w2.cell? ⟨w.heap.size + 1, 1, none⟩ = some (.int .i64 n.til) := (hB2.cell (p := ⟨w.heap.size + 1, 1, none⟩) bn_l1).trans bn_1_1
  have bn_2_2 : w2.cell? ⟨w.heap.size + 1, 2, none⟩ = some (.string n.text) := (hB2.cell (p := ⟨w.heap.size + 1, 2, none⟩) bn_l1).trans bn_2_1
  clear bx0_l1 bx0_0_1 bx0_1_1 bx0_2_1 bn_l1 bn_0_1 bn_1_1 bn_2_1
  have HF0_2 := Lib.hid (HF0_0.out.below hT2)
  clear HF0_1
  rw [HR1.out]
  go_upto_region 8 with fail
  go_cut [6, 7] (fun p q9 wx => ∃ (b : Nat) (f : Fl) (lo hi : Nat), p = .pointer (some ⟨b, 0, none⟩) ∧ q9 = .int .i64 code ∧ wx.cell? ⟨b, 0, none⟩ = some (.slice f.ch.A f.ch.l.length f.ch.c) ∧ wx.cell? ⟨b, 1, none⟩ = some (.slice f.st.A f.st.l.length f.st.c) ∧ wx.cell? ⟨b, 2, none⟩ = some (.slice f.no.A f.no.l.length f.no.c) ∧ b < wx.heap.size ∧ Hid (filePl f = q) ∧ Hid (FileMine wx lo hi f) ∧ (b < lo ∨ hi ≤ b) ∧ lo ≤ hi ∧ w2.heap.size ≤ lo ∧ hi ≤ wx.heap.size ∧ w2.heap.size ≤ b ∧ Below w2.heap.size w2 wx)
  case first =>
    refine wp_region_held_drew (S := (fun w' => (∀ kb ko, kb < w2.heap.size → w'.cell? ⟨kb, ko, none⟩ = w2.cell? ⟨kb, ko, none⟩) ∧ w2.heap.size ≤ w'.heap.size ∧ Below w2.heap.size w2 w')) (by kernel_rfl) ?_ (fun hHeld => ?_)
    · (try dsimp only); exact SB.mk ((Below.refl _ _).drew)
    first | (refine take_on (i := 0) (v := ?_) rfl (by kernel_rfl) (by kernel_rfl) (by kernel_rfl) (fun _ _ _ h => h) rfl ?_ (by assumption) ?_; rotate_left; · (intro w' hSw; (try dsimp only at hSw); go_simp; (try with_reducible rfl))) | (refine take_off (i := 0) rfl (by kernel_rfl) (by kernel_rfl) (by kernel_rfl) (fun _ _ _ h => h) rfl (by assumption) ?_)
    (try simp only [Act.put, List.setIfInBounds_toArray, List.set_cons_zero, List.set_cons_succ])
    first | (refine take_on (i := 2) (v := ?_) rfl (by kernel_rfl) (by kernel_rfl) (by kernel_rfl) (fun _ _ _ h => h) rfl ?_ (by assumption) ?_; rotate_left; · (intro w' hSw; (try dsimp only at hSw); go_simp; (try with_reducible rfl))) | (refine take_off (i := 2) rfl (by kernel_rfl) (by kernel_rfl) (by kernel_rfl) (fun _ _ _ h => h) rfl (by assumption) ?_)
    (try simp only [Act.put, List.setIfInBounds_toArray, List.set_cons_zero, List.set_cons_succ])
    refine wpAnyH_ready (rs := [1, 8]) (by kernel_rfl) (by simp) ?_
    refine AllReadyH.cons rfl (fun K hK => ?_) (AllReadyH.cons rfl (fun K hK => ?_) (AllReadyH.nil))
    · rw [if_pos (by rfl)]
      go_simp
      go_at_call 7
      refine (toFile_L f0 p0 _ (HF0_2.out.below (hHeld.2.2)) HP0.out HSZp0.out).mono ?_
      rintro e wa ⟨twa, rfl, hpwa, howa, hbwa⟩
      have RF := Lib.hid howa.rd
      have RFP := Lib.hid hpwa
      have hQwa : Below w2.heap.size w2 wa := Below.next hHeld.2.2 hbwa
      have hzwa := hbwa.size
      (try simp only [World.size_alloc, World.size_drew] at hzwa)
      have hywa := hQwa.size
      (try simp only [World.size_alloc, World.size_drew] at hywa)
      refine hK.out _ _ ?_ (fun hHeld2 => ?_)
      · (try dsimp only); exact SB.mk hQwa
      clear hK K hHeld; have hHeld := hHeld2; clear hHeld2; (try simp only [Act.put, List.setIfInBounds_toArray, List.set_cons_zero, List.set_cons_succ])
      refine wpAnyH_ready (rs := [3, 8]) (by kernel_rfl) (by simp) ?_
      refine AllReadyH.cons rfl (fun K hK => ?_) (AllReadyH.cons rfl (fun K hK => ?_) (AllReadyH.nil))
      · rw [if_pos (by rfl)]
        go_simp
        go_at_call 8
        refine (toNote_any n _).mono ?_
        rintro e wb ⟨rfl, hbwb⟩
        have RF := Lib.hid (RF.out.below (hbwb))
        have hQwb : Below w2.heap.size w2 wb := Below.next hHeld.2.2 hbwb
        have hzwb := hbwb.size
        (try simp only [World.size_alloc, World.size_drew] at hzwb)
        have hywb := hQwb.size
        (try simp only [World.size_alloc, World.size_drew] at hywb)
        refine hK.out _ _ ?_ (fun hHeld2 => ?_)
        · (try dsimp only); exact SB.mk hQwb
        clear hK K hHeld; have hHeld := hHeld2; clear hHeld2; (try simp only [Act.put, List.setIfInBounds_toArray, List.set_cons_zero, List.set_cons_succ])
        refine wpAnyH_ready (rs := [4, 8]) (by kernel_rfl) (by simp) ?_
        refine AllReadyH.cons rfl (fun K hK => ?_) (AllReadyH.cons rfl (fun K hK => ?_) (AllReadyH.nil))
        · rw [if_pos (by rfl)]
          go_simp
          go_at_call 6
          refine (sAddNote_L twa p0 q n v code _ RF.out RFP.out HSZp0.out HTXp0.out hx HV HCR.out).mono ?_
          rintro e wd ⟨fwd, rfl, hpwd, howd, hbwd⟩
          have hQwd : Below w2.heap.size w2 wd := Below.next hHeld.2.2 hbwd
          have hzwd := hbwd.size
          (try simp only [World.size_alloc, World.size_drew] at hzwd)
          have hywd := hQwd.size
          (try simp only [World.size_alloc, World.size_drew] at hywd)
          refine hK.out _ _ ?_ (fun hHeld2 => ?_)
          · (try dsimp only); exact SB.mk hQwd
          clear hK K hHeld; have hHeld := hHeld2; clear hHeld2; (try simp only [Act.put, List.setIfInBounds_toArray, List.set_cons_zero, List.set_cons_succ])
          first | (refine take_on (i := 5) (v := ?_) rfl (by kernel_rfl) (by kernel_rfl) (by kernel_rfl) (fun _ _ _ h => h) rfl ?_ (by assumption) ?_; rotate_left; · (intro w' hSw; (try dsimp only at hSw); go_simp; (try with_reducible rfl))) | (refine take_off (i := 5) rfl (by kernel_rfl) (by kernel_rfl) (by kernel_rfl) (fun _ _ _ h => h) rfl (by assumption) ?_)
          (try simp only [Act.put, List.setIfInBounds_toArray, List.set_cons_zero, List.set_cons_succ])
          first | (refine take_on (i := 6) (v := ?_) rfl (by kernel_rfl) (by kernel_rfl) (by kernel_rfl) (fun _ _ _ h => h) rfl ?_ (by assumption) ?_; rotate_left; · (intro w' hSw; (try dsimp only at hSw); go_simp; (try with_reducible rfl))) | (refine take_off (i := 6) rfl (by kernel_rfl) (by kernel_rfl) (by kernel_rfl) (fun _ _ _ h => h) rfl (by assumption) ?_)
          (try simp only [Act.put, List.setIfInBounds_toArray, List.set_cons_zero, List.set_cons_succ])
          first | (refine take_on (i := 7) (v := ?_) rfl (by kernel_rfl) (by kernel_rfl) (by kernel_rfl) (fun _ _ _ h => h) rfl ?_ (by assumption) ?_; rotate_left; · (intro w' hSw; (try dsimp only at hSw); go_simp; (try with_reducible rfl))) | (refine take_off (i := 7) rfl (by kernel_rfl) (by kernel_rfl) (by kernel_rfl) (fun _ _ _ h => h) rfl (by assumption) ?_)
          (try simp only [Act.put, List.setIfInBounds_toArray, List.set_cons_zero, List.set_cons_succ])
          refine wpAnyH_ready (rs := [8]) (by kernel_rfl) (by simp) ?_
          refine AllReadyH.cons rfl (fun K hK => ?_) AllReadyH.nil
          rw [if_pos (by rfl)]
          go_simp
          refine hK.out _ _ ?_ (fun hHeld2 => ?_)
          · (try dsimp only); exact SB.mk (hHeld.2.2.alloc hHeld.2.1 _)
          clear hK K hHeld; have hHeld := hHeld2; clear hHeld2; (try simp only [Act.put, List.setIfInBounds_toArray, List.set_cons_zero, List.set_cons_succ])
          refine wpAnyH_ready (rs := [9]) (by kernel_rfl) (by simp) ?_
          refine AllReadyH.cons rfl (fun K hK => ?_) AllReadyH.nil
          rw [if_pos (by rfl)]
          go_simp
          refine hK.out _ _ ?_ (fun hHeld2 => ?_)
          · (try dsimp only); exact SB.mk (hQwd.alloc hQwd.size _)
          clear hK K hHeld; have hHeld := hHeld2; clear hHeld2; (try simp only [Act.put, List.setIfInBounds_toArray, List.set_cons_zero, List.set_cons_succ])
          first | (refine take_on (i := 10) (v := ?_) rfl (by kernel_rfl) (by kernel_rfl) (by kernel_rfl) (fun _ _ _ h => h) rfl ?_ (by assumption) ?_; rotate_left; · (intro w' hSw; (try dsimp only at hSw); go_simp; (try with_reducible rfl))) | (refine take_off (i := 10) rfl (by kernel_rfl) (by kernel_rfl) (by kernel_rfl) (fun _ _ _ h => h) rfl (by assumption) ?_)
          (try simp only [Act.put, List.setIfInBounds_toArray, List.set_cons_zero, List.set_cons_succ])
          refine wpAnyH_done (by kernel_rfl) ?_ _
          have hF := hHeld.2.2
          clear hHeld
          go_wp2_with fail
          go_meet
          have hk3 := Bk.new wd #[.slice fwd.ch.A fwd.ch.l.length fwd.ch.c, .slice fwd.st.A fwd.st.l.length fwd.st.c, .slice fwd.no.A fwd.no.l.length fwd.no.c] 35
          refine ⟨_, fwd, _, _, rfl, rfl, hk3.cell 0, hk3.cell 1, hk3.cell 2, by simp, hpwd, howd.alloc _, .inr (Nat.le_refl _), ?_, ?_, ?_, by omega, hF⟩
          all_goals (try simp only [World.size_alloc, World.size_drew])
          all_goals omega
        · rw [if_pos (by rfl)]
          go_simp
          refine hK.out _ _ ?_ (fun hHeld2 => ?_)
          · (try dsimp only); exact SB.mk (hHeld.2.2.alloc hHeld.2.1 _)
          clear hK K hHeld; have hHeld := hHeld2; clear hHeld2; (try simp only [Act.put, List.setIfInBounds_toArray, List.set_cons_zero, List.set_cons_succ])
          have RF := Lib.hid (RF.out.alloc (.cells #[.slice none 0 0, .slice none 0 0, .slice none 0 0] 35))
          have hbk : Bk _ (wb.heap.size) 35 #[.slice none 0 0, .slice none 0 0, .slice none 0 0] := Bk.new wb _ _
          have hbge : w2.heap.size ≤ wb.heap.size := by omega
          have hbv : wb.heap.size ≤ wb.heap.size := Nat.le_refl _
          refine wpAnyH_ready (rs := [4]) (by kernel_rfl) (by simp) ?_
          refine AllReadyH.cons rfl (fun K hK => ?_) (AllReadyH.nil)
          rw [if_pos (by rfl)]
          go_simp
          have lbb := hbk.lt
          go_at_call 6
          refine (sAddNote_L twa p0 q n v code _ RF.out RFP.out HSZp0.out HTXp0.out hx HV HCR.out).mono ?_
          rintro e wd ⟨fwd, rfl, hpwd, howd, hbwd⟩
          have hQwd : Below w2.heap.size w2 wd := Below.next hHeld.2.2 hbwd
          have hzwd := hbwd.size
          (try simp only [World.size_alloc, World.size_drew] at hzwd)
          have hywd := hQwd.size
          (try simp only [World.size_alloc, World.size_drew] at hywd)
          have hbk := hbk.next hbwd
          refine hK.out _ _ ?_ (fun hHeld2 => ?_)
          · (try dsimp only); exact SB.mk hQwd
          clear hK K hHeld; have hHeld := hHeld2; clear hHeld2; (try simp only [Act.put, List.setIfInBounds_toArray, List.set_cons_zero, List.set_cons_succ])
          first | (refine take_on (i := 5) (v := ?_) rfl (by kernel_rfl) (by kernel_rfl) (by kernel_rfl) (fun _ _ _ h => h) rfl ?_ (by assumption) ?_; rotate_left; · (intro w' hSw; (try dsimp only at hSw); go_simp; (try with_reducible rfl))) | (refine take_off (i := 5) rfl (by kernel_rfl) (by kernel_rfl) (by kernel_rfl) (fun _ _ _ h => h) rfl (by assumption) ?_)
          (try simp only [Act.put, List.setIfInBounds_toArray, List.set_cons_zero, List.set_cons_succ])
          first | (refine take_on (i := 6) (v := ?_) rfl (by kernel_rfl) (by kernel_rfl) (by kernel_rfl) (fun _ _ _ h => h) rfl ?_ (by assumption) ?_; rotate_left; · (intro w' hSw; (try dsimp only at hSw); go_simp; (try with_reducible rfl))) | (refine take_off (i := 6) rfl (by kernel_rfl) (by kernel_rfl) (by kernel_rfl) (fun _ _ _ h => h) rfl (by assumption) ?_)
          (try simp only [Act.put, List.setIfInBounds_toArray, List.set_cons_zero, List.set_cons_succ])
          first | (refine take_on (i := 7) (v := ?_) rfl (by kernel_rfl) (by kernel_rfl) (by kernel_rfl) (fun _ _ _ h => h) rfl ?_ (by assumption) ?_; rotate_left; · (intro w' hSw; (try dsimp only at hSw); go_simp; (try with_reducible rfl))) | (refine take_off (i := 7) rfl (by kernel_rfl) (by kernel_rfl) (by kernel_rfl) (fun _ _ _ h => h) rfl (by assumption) ?_)
          (try simp only [Act.put, List.setIfInBounds_toArray, List.set_cons_zero, List.set_cons_succ])
          have ebk0 := hbk.cell 0
          have ebk1 := hbk.cell 1
          have ebk2 := hbk.cell 2
          have fbk0 := hbk.frozen 0
          have fbk1 := hbk.frozen 1
          have fbk2 := hbk.frozen 2
          have lbk := hbk.lt
          refine wpAnyH_ready (rs := [9]) (by kernel_rfl) (by simp) ?_
          refine AllReadyH.cons rfl (fun K hK => ?_) AllReadyH.nil
          rw [if_pos (by rfl)]
          go_simp
          refine hK.out _ _ ?_ (fun hHeld2 => ?_)
          · (try dsimp only); exact SB.mk (((hQwd.setCell (by (try simp only [World.size_alloc]); omega) _).setCell (by (try simp only [World.size_alloc]); omega) _).setCell (by (try simp only [World.size_alloc]); omega) _)
          clear hK K hHeld; have hHeld := hHeld2; clear hHeld2; (try simp only [Act.put, List.setIfInBounds_toArray, List.set_cons_zero, List.set_cons_succ])
          first | (refine take_on (i := 10) (v := ?_) rfl (by kernel_rfl) (by kernel_rfl) (by kernel_rfl) (fun _ _ _ h => h) rfl ?_ (by assumption) ?_; rotate_left; · (intro w' hSw; (try dsimp only at hSw); go_simp; (try with_reducible rfl))) | (refine take_off (i := 10) rfl (by kernel_rfl) (by kernel_rfl) (by kernel_rfl) (fun _ _ _ h => h) rfl (by assumption) ?_)
          (try simp only [Act.put, List.setIfInBounds_toArray, List.set_cons_zero, List.set_cons_succ])
          refine wpAnyH_done (by kernel_rfl) ?_ _
          have hF := hHeld.2.2
          clear hHeld
          go_wp2_with fail
          go_meet
          have hblo : _ < _ := lbb
          have hk3 := ((hbk.put 0 (.slice fwd.ch.A fwd.ch.l.length fwd.ch.c)).put 1 (.slice fwd.st.A fwd.st.l.length fwd.st.c)).put 2 (.slice fwd.no.A fwd.no.l.length fwd.no.c)
          have ho3 := ((howd.set (o := 0) (u := .slice fwd.ch.A fwd.ch.l.length fwd.ch.c) hblo).set (o := 1) (u := .slice fwd.st.A fwd.st.l.length fwd.st.c) hblo).set (o := 2) (u := .slice fwd.no.A fwd.no.l.length fwd.no.c) hblo
          refine ⟨_, fwd, _, _, rfl, rfl, hk3.cell 0, hk3.cell 1, hk3.cell 2, hk3.lt, hpwd, ho3, .inl hblo, ?_, ?_, ?_, by omega, hF⟩
          all_goals (try simp only [World.size_alloc, World.size_drew, World.setCell, Array.size_modify])
          all_goals omega
      · rw [if_pos (by rfl)]
        go_simp
        refine hK.out _ _ ?_ (fun hHeld2 => ?_)
        · (try dsimp only); exact SB.mk (hHeld.2.2.alloc hHeld.2.1 _)
        clear hK K hHeld; have hHeld := hHeld2; clear hHeld2; (try simp only [Act.put, List.setIfInBounds_toArray, List.set_cons_zero, List.set_cons_succ])
        have RF := Lib.hid (RF.out.alloc (.cells #[.slice none 0 0, .slice none 0 0, .slice none 0 0] 35))
        have hbk : Bk _ (wa.heap.size) 35 #[.slice none 0 0, .slice none 0 0, .slice none 0 0] := Bk.new wa _ _
        have hbge : w2.heap.size ≤ wa.heap.size := by omega
        have hbv : wa.heap.size ≤ wa.heap.size := Nat.le_refl _
        refine wpAnyH_ready (rs := [3]) (by kernel_rfl) (by simp) ?_
        refine AllReadyH.cons rfl (fun K hK => ?_) (AllReadyH.nil)
        rw [if_pos (by rfl)]
        go_simp
        go_at_call 8
        refine (toNote_any n _).mono ?_
        rintro e wb ⟨rfl, hbwb⟩
        have RF := Lib.hid (RF.out.below (hbwb))
        have hQwb : Below w2.heap.size w2 wb := Below.next hHeld.2.2 hbwb
        have hzwb := hbwb.size
        (try simp only [World.size_alloc, World.size_drew] at hzwb)
        have hywb := hQwb.size
        (try simp only [World.size_alloc, World.size_drew] at hywb)
        have hbk := hbk.next hbwb
        refine hK.out _ _ ?_ (fun hHeld2 => ?_)
        · (try dsimp only); exact SB.mk hQwb
        clear hK K hHeld; have hHeld := hHeld2; clear hHeld2; (try simp only [Act.put, List.setIfInBounds_toArray, List.set_cons_zero, List.set_cons_succ])
        refine wpAnyH_ready (rs := [4]) (by kernel_rfl) (by simp) ?_
        refine AllReadyH.cons rfl (fun K hK => ?_) (AllReadyH.nil)
        rw [if_pos (by rfl)]
        go_simp
        have lbb := hbk.lt
        go_at_call 6
        refine (sAddNote_L twa p0 q n v code _ RF.out RFP.out HSZp0.out HTXp0.out hx HV HCR.out).mono ?_
        rintro e wd ⟨fwd, rfl, hpwd, howd, hbwd⟩
        have hQwd : Below w2.heap.size w2 wd := Below.next hHeld.2.2 hbwd
        have hzwd := hbwd.size
        (try simp only [World.size_alloc, World.size_drew] at hzwd)
        have hywd := hQwd.size
        (try simp only [World.size_alloc, World.size_drew] at hywd)
        have hbk := hbk.next hbwd
        refine hK.out _ _ ?_ (fun hHeld2 => ?_)
        · (try dsimp only); exact SB.mk hQwd
        clear hK K hHeld; have hHeld := hHeld2; clear hHeld2; (try simp only [Act.put, List.setIfInBounds_toArray, List.set_cons_zero, List.set_cons_succ])
        first | (refine take_on (i := 5) (v := ?_) rfl (by kernel_rfl) (by kernel_rfl) (by kernel_rfl) (fun _ _ _ h => h) rfl ?_ (by assumption) ?_; rotate_left; · (intro w' hSw; (try dsimp only at hSw); go_simp; (try with_reducible rfl))) | (refine take_off (i := 5) rfl (by kernel_rfl) (by kernel_rfl) (by kernel_rfl) (fun _ _ _ h => h) rfl (by assumption) ?_)
        (try simp only [Act.put, List.setIfInBounds_toArray, List.set_cons_zero, List.set_cons_succ])
        first | (refine take_on (i := 6) (v := ?_) rfl (by kernel_rfl) (by kernel_rfl) (by kernel_rfl) (fun _ _ _ h => h) rfl ?_ (by assumption) ?_; rotate_left; · (intro w' hSw; (try dsimp only at hSw); go_simp; (try with_reducible rfl))) | (refine take_off (i := 6) rfl (by kernel_rfl) (by kernel_rfl) (by kernel_rfl) (fun _ _ _ h => h) rfl (by assumption) ?_)
        (try simp only [Act.put, List.setIfInBounds_toArray, List.set_cons_zero, List.set_cons_succ])
        first | (refine take_on (i := 7) (v := ?_) rfl (by kernel_rfl) (by kernel_rfl) (by kernel_rfl) (fun _ _ _ h => h) rfl ?_ (by assumption) ?_; rotate_left; · (intro w' hSw; (try dsimp only at hSw); go_simp; (try with_reducible rfl))) | (refine take_off (i := 7) rfl (by kernel_rfl) (by kernel_rfl) (by kernel_rfl) (fun _ _ _ h => h) rfl (by assumption) ?_)
        (try simp only [Act.put, List.setIfInBounds_toArray, List.set_cons_zero, List.set_cons_succ])
        have ebk0 := hbk.cell 0
        have ebk1 := hbk.cell 1
        have ebk2 := hbk.cell 2
        have fbk0 := hbk.frozen 0
        have fbk1 := hbk.frozen 1
        have fbk2 := hbk.frozen 2
        have lbk := hbk.lt
        refine wpAnyH_ready (rs := [9]) (by kernel_rfl) (by simp) ?_
        refine AllReadyH.cons rfl (fun K hK => ?_) AllReadyH.nil
        rw [if_pos (by rfl)]
        go_simp
        refine hK.out _ _ ?_ (fun hHeld2 => ?_)
        · (try dsimp only); exact SB.mk (((hQwd.setCell (by (try simp only [World.size_alloc]); omega) _).setCell (by (try simp only [World.size_alloc]); omega) _).setCell (by (try simp only [World.size_alloc]); omega) _)
        clear hK K hHeld; have hHeld := hHeld2; clear hHeld2; (try simp only [Act.put, List.setIfInBounds_toArray, List.set_cons_zero, List.set_cons_succ])
        first | (refine take_on (i := 10) (v := ?_) rfl (by kernel_rfl) (by kernel_rfl) (by kernel_rfl) (fun _ _ _ h => h) rfl ?_ (by assumption) ?_; rotate_left; · (intro w' hSw; (try dsimp only at hSw); go_simp; (try with_reducible rfl))) | (refine take_off (i := 10) rfl (by kernel_rfl) (by kernel_rfl) (by kernel_rfl) (fun _ _ _ h => h) rfl (by assumption) ?_)
        (try simp only [Act.put, List.setIfInBounds_toArray, List.set_cons_zero, List.set_cons_succ])
        refine wpAnyH_done (by kernel_rfl) ?_ _
        have hF := hHeld.2.2
        clear hHeld
        go_wp2_with fail
        go_meet
        have hblo : _ < _ := lbb
        have hk3 := ((hbk.put 0 (.slice fwd.ch.A fwd.ch.l.length fwd.ch.c)).put 1 (.slice fwd.st.A fwd.st.l.length fwd.st.c)).put 2 (.slice fwd.no.A fwd.no.l.length fwd.no.c)
        have ho3 := ((howd.set (o := 0) (u := .slice fwd.ch.A fwd.ch.l.length fwd.ch.c) hblo).set (o := 1) (u := .slice fwd.st.A fwd.st.l.length fwd.st.c) hblo).set (o := 2) (u := .slice fwd.no.A fwd.no.l.length fwd.no.c) hblo
        refine ⟨_, fwd, _, _, rfl, rfl, hk3.cell 0, hk3.cell 1, hk3.cell 2, hk3.lt, hpwd, ho3, .inl hblo, ?_, ?_, ?_, by omega, hF⟩
        all_goals (try simp only [World.size_alloc, World.size_drew, World.setCell, Array.size_modify])
        all_goals omega
    · rw [if_pos (by rfl)]
      go_simp
      refine hK.out _ _ ?_ (fun hHeld2 => ?_)
      · (try dsimp only); exact SB.mk (hHeld.2.2.alloc hHeld.2.1 _)
      clear hK K hHeld; have hHeld := hHeld2; clear hHeld2; (try simp only [Act.put, List.setIfInBounds_toArray, List.set_cons_zero, List.set_cons_succ])
      have hbk : Bk _ (w2.heap.size) 35 #[.slice none 0 0, .slice none 0 0, .slice none 0 0] := Bk.new w2.drew _ _
      have hbge : w2.heap.size ≤ w2.heap.size := by omega
      have hbv : w2.heap.size ≤ w2.heap.size := Nat.le_refl _
      refine wpAnyH_ready (rs := [1]) (by kernel_rfl) (by simp) ?_
      refine AllReadyH.cons rfl (fun K hK => ?_) (AllReadyH.nil)
      rw [if_pos (by rfl)]
      go_simp
      go_at_call 7
      refine (toFile_L f0 p0 _ (HF0_2.out.below (hHeld.2.2)) HP0.out HSZp0.out).mono ?_
      rintro e wa ⟨twa, rfl, hpwa, howa, hbwa⟩
      have RF := Lib.hid howa.rd
      have RFP := Lib.hid hpwa
      have hQwa : Below w2.heap.size w2 wa := Below.next hHeld.2.2 hbwa
      have hzwa := hbwa.size
      (try simp only [World.size_alloc, World.size_drew] at hzwa)
      have hywa := hQwa.size
      (try simp only [World.size_alloc, World.size_drew] at hywa)
      have hbk := hbk.next hbwa
      refine hK.out _ _ ?_ (fun hHeld2 => ?_)
      · (try dsimp only); exact SB.mk hQwa
      clear hK K hHeld; have hHeld := hHeld2; clear hHeld2; (try simp only [Act.put, List.setIfInBounds_toArray, List.set_cons_zero, List.set_cons_succ])
      refine wpAnyH_ready (rs := [3]) (by kernel_rfl) (by simp) ?_
      refine AllReadyH.cons rfl (fun K hK => ?_) (AllReadyH.nil)
      rw [if_pos (by rfl)]
      go_simp
      go_at_call 8
      refine (toNote_any n _).mono ?_
      rintro e wb ⟨rfl, hbwb⟩
      have RF := Lib.hid (RF.out.below (hbwb))
      have hQwb : Below w2.heap.size w2 wb := Below.next hHeld.2.2 hbwb
      have hzwb := hbwb.size
      (try simp only [World.size_alloc, World.size_drew] at hzwb)
      have hywb := hQwb.size
      (try simp only [World.size_alloc, World.size_drew] at hywb)
      have hbk := hbk.next hbwb
      refine hK.out _ _ ?_ (fun hHeld2 => ?_)
      · (try dsimp only); exact SB.mk hQwb
      clear hK K hHeld; have hHeld := hHeld2; clear hHeld2; (try simp only [Act.put, List.setIfInBounds_toArray, List.set_cons_zero, List.set_cons_succ])
      refine wpAnyH_ready (rs := [4]) (by kernel_rfl) (by simp) ?_
      refine AllReadyH.cons rfl (fun K hK => ?_) (AllReadyH.nil)
      rw [if_pos (by rfl)]
      go_simp
      have lbb := hbk.lt
      go_at_call 6
      refine (sAddNote_L twa p0 q n v code _ RF.out RFP.out HSZp0.out HTXp0.out hx HV HCR.out).mono ?_
      rintro e wd ⟨fwd, rfl, hpwd, howd, hbwd⟩
      have hQwd : Below w2.heap.size w2 wd := Below.next hHeld.2.2 hbwd
      have hzwd := hbwd.size
      (try simp only [World.size_alloc, World.size_drew] at hzwd)
      have hywd := hQwd.size
      (try simp only [World.size_alloc, World.size_drew] at hywd)
      have hbk := hbk.next hbwd
      refine hK.out _ _ ?_ (fun hHeld2 => ?_)
      · (try dsimp only); exact SB.mk hQwd
      clear hK K hHeld; have hHeld := hHeld2; clear hHeld2; (try simp only [Act.put, List.setIfInBounds_toArray, List.set_cons_zero, List.set_cons_succ])
      first | (refine take_on (i := 5) (v := ?_) rfl (by kernel_rfl) (by kernel_rfl) (by kernel_rfl) (fun _ _ _ h => h) rfl ?_ (by assumption) ?_; rotate_left; · (intro w' hSw; (try dsimp only at hSw); go_simp; (try with_reducible rfl))) | (refine take_off (i := 5) rfl (by kernel_rfl) (by kernel_rfl) (by kernel_rfl) (fun _ _ _ h => h) rfl (by assumption) ?_)
      (try simp only [Act.put, List.setIfInBounds_toArray, List.set_cons_zero, List.set_cons_succ])
      first | (refine take_on (i := 6) (v := ?_) rfl (by kernel_rfl) (by kernel_rfl) (by kernel_rfl) (fun _ _ _ h => h) rfl ?_ (by assumption) ?_; rotate_left; · (intro w' hSw; (try dsimp only at hSw); go_simp; (try with_reducible rfl))) | (refine take_off (i := 6) rfl (by kernel_rfl) (by kernel_rfl) (by kernel_rfl) (fun _ _ _ h => h) rfl (by assumption) ?_)
      (try simp only [Act.put, List.setIfInBounds_toArray, List.set_cons_zero, List.set_cons_succ])
      first | (refine take_on (i := 7) (v := ?_) rfl (by kernel_rfl) (by kernel_rfl) (by kernel_rfl) (fun _ _ _ h => h) rfl ?_ (by assumption) ?_; rotate_left; · (intro w' hSw; (try dsimp only at hSw); go_simp; (try with_reducible rfl))) | (refine take_off (i := 7) rfl (by kernel_rfl) (by kernel_rfl) (by kernel_rfl) (fun _ _ _ h => h) rfl (by assumption) ?_)
      (try simp only [Act.put, List.setIfInBounds_toArray, List.set_cons_zero, List.set_cons_succ])
      have ebk0 := hbk.cell 0
      have ebk1 := hbk.cell 1
      have ebk2 := hbk.cell 2
      have fbk0 := hbk.frozen 0
      have fbk1 := hbk.frozen 1
      have fbk2 := hbk.frozen 2
      have lbk := hbk.lt
      refine wpAnyH_ready (rs := [9]) (by kernel_rfl) (by simp) ?_
      refine AllReadyH.cons rfl (fun K hK => ?_) AllReadyH.nil
      rw [if_pos (by rfl)]
      go_simp
      refine hK.out _ _ ?_ (fun hHeld2 => ?_)
      · (try dsimp only); exact SB.mk (((hQwd.setCell (by (try simp only [World.size_alloc]); omega) _).setCell (by (try simp only [World.size_alloc]); omega) _).setCell (by (try simp only [World.size_alloc]); omega) _)
      clear hK K hHeld; have hHeld := hHeld2; clear hHeld2; (try simp only [Act.put, List.setIfInBounds_toArray, List.set_cons_zero, List.set_cons_succ])
      first | (refine take_on (i := 10) (v := ?_) rfl (by kernel_rfl) (by kernel_rfl) (by kernel_rfl) (fun _ _ _ h => h) rfl ?_ (by assumption) ?_; rotate_left; · (intro w' hSw; (try dsimp only at hSw); go_simp; (try with_reducible rfl))) | (refine take_off (i := 10) rfl (by kernel_rfl) (by kernel_rfl) (by kernel_rfl) (fun _ _ _ h => h) rfl (by assumption) ?_)
      (try simp only [Act.put, List.setIfInBounds_toArray, List.set_cons_zero, List.set_cons_succ])
      refine wpAnyH_done (by kernel_rfl) ?_ _
      have hF := hHeld.2.2
      clear hHeld
      go_wp2_with fail
      go_meet
      have hblo : _ < _ := lbb
      have hk3 := ((hbk.put 0 (.slice fwd.ch.A fwd.ch.l.length fwd.ch.c)).put 1 (.slice fwd.st.A fwd.st.l.length fwd.st.c)).put 2 (.slice fwd.no.A fwd.no.l.length fwd.no.c)
      have ho3 := ((howd.set (o := 0) (u := .slice fwd.ch.A fwd.ch.l.length fwd.ch.c) hblo).set (o := 1) (u := .slice fwd.st.A fwd.st.l.length fwd.st.c) hblo).set (o := 2) (u := .slice fwd.no.A fwd.no.l.length fwd.no.c) hblo
      refine ⟨_, fwd, _, _, rfl, rfl, hk3.cell 0, hk3.cell 1, hk3.cell 2, hk3.lt, hpwd, ho3, .inl hblo, ?_, ?_, ?_, by omega, hF⟩
      all_goals (try simp only [World.size_alloc, World.size_drew, World.setCell, Array.size_modify])
      all_goals omega
  case rest =>
    obtain ⟨w3, rfl⟩ : ∃ x, x = wc := ⟨wc, rfl⟩
    obtain ⟨b3, fr3, lo3, hi3, rfl, rfl, hca3, hcb3, hcc3, hbl3, hp3, ho3, hbd3, hlh3, hlo3, hhi3, hbg3, hb3⟩ := hcut
    have hB3 : Below w2.heap.size w2 w3 := Below.next (by go_grown) hb3
    have hT3 : Below w.heap.size w w3 := Below.next hT2 hB3
    have hz3 := hb3.size
    (try simp only [World.size_alloc, World.size_drew] at hz3)
    have bx0_l3 : w.heap.size < w3.heap.size := Nat.lt_of_lt_of_le bx0_l2 hB3.size
    have bx0_0_3 : w3.cell? ⟨w.heap.size, 0, none⟩ = some (.slice f0.ch.A f0.ch.l.length f0.ch.c) := (hB3.cell (p := ⟨w.heap.size, 0, none⟩) bx0_l2).trans bx0_0_2
    have bx0_1_3 : w3.cell? ⟨w.heap.size, 1, none⟩ = some (.slice f0.st.A f0.st.l.length f0.st.c) := (hB3.cell (p := ⟨w.heap.size, 1, none⟩) bx0_l2).trans bx0_1_2
    have bx0_2_3 : w3.cell? ⟨w.heap.size, 2, none⟩ = some (.slice f0.no.A f0.no.l.length f0.no.c) := (hB3.cell (p := ⟨w.heap.size, 2, none⟩) bx0_l2).trans bx0_2_2
    have bn_l3 : w.heap.size + 1 < w3.heap.size := Nat.lt_of_lt_of_le bn_l2 hB3.size
    have bn_0_3 : w3.cell? ⟨w.heap.size + 1, 0, none⟩ = some (.int .i64 n.fr) := (hB3.cell (p := ⟨w.heap.size + 1, 0, none⟩) bn_l2).trans bn_0_2
    have bn_1_3 : w3.cell? ⟨w.heap.size + 1, 1, none⟩ = some (.int .i64 n.til) := (hB3.cell (p := ⟨w.heap.size + 1, 1, none⟩) bn_l2).trans bn_1_2
    have bn_2_3 : w3.cell? ⟨w.heap.size + 1, 2, none⟩ = some (.string n.text) := (hB3.cell (p := ⟨w.heap.size + 1, 2, none⟩) bn_l2).trans bn_2_2
    clear bx0_l2 bx0_0_2 bx0_1_2 bx0_2_2 bn_l2 bn_0_2 bn_1_2 bn_2_2
    have HF0_3 := Lib.hid (HF0_0.out.below hT3)
    clear HF0_2
    have W0_3 := ho3
    clear ho3
    have W0_p := hp3
    clear hp3
    have bW0_l3 := hbl3
    have bW0_0_3 := hca3
    have bW0_1_3 := hcb3
    have bW0_2_3 := hcc3
    go_wp2_with fail
    refine (toFile_L f0 p0 _ (by first | exact HF0_3.out | exact HF0_3.out.alloc _ | exact (HF0_3.out.alloc _).alloc _ | exact ((HF0_3.out.alloc _).alloc _).alloc _ | exact HF0_3.out.drew | exact (HF0_3.out.drew).alloc _) HP0.out HSZp0.out).mono ?_
    rintro e w4 ⟨t4, rfl, hp4, ho4, hb4⟩
    have hB4 : Below w3.heap.size w3 w4 := Below.next (by go_grown) hb4
    have hT4 : Below w.heap.size w w4 := Below.next hT3 hB4
    have hz4 := hb4.size
    (try simp only [World.size_alloc, World.size_drew] at hz4)
    have bx0_l4 : w.heap.size < w4.heap.size := Nat.lt_of_lt_of_le bx0_l3 hB4.size
    have bx0_0_4 : w4.cell? ⟨w.heap.size, 0, none⟩ = some (.slice f0.ch.A f0.ch.l.length f0.ch.c) := (hB4.cell (p := ⟨w.heap.size, 0, none⟩) bx0_l3).trans bx0_0_3
    have bx0_1_4 : w4.cell? ⟨w.heap.size, 1, none⟩ = some (.slice f0.st.A f0.st.l.length f0.st.c) := (hB4.cell (p := ⟨w.heap.size, 1, none⟩) bx0_l3).trans bx0_1_3
    have bx0_2_4 : w4.cell? ⟨w.heap.size, 2, none⟩ = some (.slice f0.no.A f0.no.l.length f0.no.c) := (hB4.cell (p := ⟨w.heap.size, 2, none⟩) bx0_l3).trans bx0_2_3
    have bn_l4 : w.heap.size + 1 < w4.heap.size := Nat.lt_of_lt_of_le bn_l3 hB4.size
    have bn_0_4 : w4.cell? ⟨w.heap.size + 1, 0, none⟩ = some (.int .i64 n.fr) := (hB4.cell (p := ⟨w.heap.size + 1, 0, none⟩) bn_l3).trans bn_0_3
    have bn_1_4 : w4.cell? ⟨w.heap.size + 1, 1, none⟩ = some (.int .i64 n.til) := (hB4.cell (p := ⟨w.heap.size + 1, 1, none⟩) bn_l3).trans bn_1_3
    have bn_2_4 : w4.cell? ⟨w.heap.size + 1, 2, none⟩ = some (.string n.text) := (hB4.cell (p := ⟨w.heap.size + 1, 2, none⟩) bn_l3).trans bn_2_3
    have bW0_l4 : b3 < w4.heap.size := Nat.lt_of_lt_of_le bW0_l3 hB4.size
    have bW0_0_4 : w4.cell? ⟨b3, 0, none⟩ = some (.slice fr3.ch.A fr3.ch.l.length fr3.ch.c) := (hB4.cell (p := ⟨b3, 0, none⟩) bW0_l3).trans bW0_0_3
    have bW0_1_4 : w4.cell? ⟨b3, 1, none⟩ = some (.slice fr3.st.A fr3.st.l.length fr3.st.c) := (hB4.cell (p := ⟨b3, 1, none⟩) bW0_l3).trans bW0_1_3
    have bW0_2_4 : w4.cell? ⟨b3, 2, none⟩ = some (.slice fr3.no.A fr3.no.l.length fr3.no.c) := (hB4.cell (p := ⟨b3, 2, none⟩) bW0_l3).trans bW0_2_3
    clear bx0_l3 bx0_0_3 bx0_1_3 bx0_2_3 bn_l3 bn_0_3 bn_1_3 bn_2_3 bW0_l3 bW0_0_3 bW0_1_3 bW0_2_3
    have HF0_4 := Lib.hid (HF0_0.out.below hT4)
    clear HF0_3
    have W0_4 := Lib.hid (W0_3.out.next hB4)
    clear W0_3
    have X0_4 : Hid (FileMine w4 (w3.heap.size) (w4.heap.size) t4) := by have h := ho4; (try simp only [World.size_alloc, World.size_drew] at h); exact h
    have X0_p : Hid (filePl t4 = p0) := hp4
    clear ho4 hp4
    go_upto_region 10 with fail
    have RF : Hid (FileRd (w4.alloc (.cells #[.slice t4.ch.A t4.ch.l.length t4.ch.c, .slice t4.st.A t4.st.l.length t4.st.c, .slice t4.no.A t4.no.l.length t4.no.c] 35)) t4) := Lib.hid (by first | exact X0_4.out.rd | exact X0_4.out.rd.alloc _ | exact (X0_4.out.rd.alloc _).alloc _ | exact ((X0_4.out.rd.alloc _).alloc _).alloc _ | exact (((X0_4.out.rd.alloc _).alloc _).alloc _).alloc _ | exact X0_4.out.rd.drew | exact (X0_4.out.rd.drew).alloc _)
    go_cut [9, 10] (fun p q9 wx => ∃ (b : Nat) (f : Fl) (lo hi : Nat), p = .pointer (some ⟨b, 0, none⟩) ∧ q9 = .int .i64 code ∧ wx.cell? ⟨b, 0, none⟩ = some (.slice f.ch.A f.ch.l.length f.ch.c) ∧ wx.cell? ⟨b, 1, none⟩ = some (.slice f.st.A f.st.l.length f.st.c) ∧ wx.cell? ⟨b, 2, none⟩ = some (.slice f.no.A f.no.l.length f.no.c) ∧ b < wx.heap.size ∧ Hid (filePl f = q) ∧ Hid (FileMine wx lo hi f) ∧ (b < lo ∨ hi ≤ b) ∧ lo ≤ hi ∧ w4.heap.size + 1 ≤ lo ∧ hi ≤ wx.heap.size ∧ w4.heap.size + 1 ≤ b ∧ Below (w4.alloc (.cells #[.slice t4.ch.A t4.ch.l.length t4.ch.c, .slice t4.st.A t4.st.l.length t4.st.c, .slice t4.no.A t4.no.l.length t4.no.c] 35)).heap.size (w4.alloc (.cells #[.slice t4.ch.A t4.ch.l.length t4.ch.c, .slice t4.st.A t4.st.l.length t4.st.c, .slice t4.no.A t4.no.l.length t4.no.c] 35)) wx)
    case first =>
      refine wp_region_held_drew (S := (fun w' => (∀ kb ko, kb < (w4.alloc (.cells #[.slice t4.ch.A t4.ch.l.length t4.ch.c, .slice t4.st.A t4.st.l.length t4.st.c, .slice t4.no.A t4.no.l.length t4.no.c] 35)).heap.size → w'.cell? ⟨kb, ko, none⟩ = (w4.alloc (.cells #[.slice t4.ch.A t4.ch.l.length t4.ch.c, .slice t4.st.A t4.st.l.length t4.st.c, .slice t4.no.A t4.no.l.length t4.no.c] 35)).cell? ⟨kb, ko, none⟩) ∧ (w4.alloc (.cells #[.slice t4.ch.A t4.ch.l.length t4.ch.c, .slice t4.st.A t4.st.l.length t4.st.c, .slice t4.no.A t4.no.l.length t4.no.c] 35)).heap.size ≤ w'.heap.size ∧ Below (w4.alloc (.cells #[.slice t4.ch.A t4.ch.l.length t4.ch.c, .slice t4.st.A t4.st.l.length t4.st.c, .slice t4.no.A t4.no.l.length t4.no.c] 35)).heap.size (w4.alloc (.cells #[.slice t4.ch.A t4.ch.l.length t4.ch.c, .slice t4.st.A t4.st.l.length t4.st.c, .slice t4.no.A t4.no.l.length t4.no.c] 35)) w')) (by kernel_rfl) ?_ (fun hHeld => ?_)
      · (try dsimp only); exact SB.mk ((Below.refl _ _).drew)
      first | (refine take_on (i := 0) (v := ?_) rfl (by kernel_rfl) (by kernel_rfl) (by kernel_rfl) (fun _ _ _ h => h) rfl ?_ (by assumption) ?_; rotate_left; · (intro w' hSw; (try dsimp only at hSw); go_simp; (try with_reducible rfl))) | (refine take_off (i := 0) rfl (by kernel_rfl) (by kernel_rfl) (by kernel_rfl) (fun _ _ _ h => h) rfl (by assumption) ?_)
      (try simp only [Act.put, List.setIfInBounds_toArray, List.set_cons_zero, List.set_cons_succ])
      first | (refine take_on (i := 1) (v := ?_) rfl (by kernel_rfl) (by kernel_rfl) (by kernel_rfl) (fun _ _ _ h => h) rfl ?_ (by assumption) ?_; rotate_left; · (intro w' hSw; (try dsimp only at hSw); go_simp; (try with_reducible rfl))) | (refine take_off (i := 1) rfl (by kernel_rfl) (by kernel_rfl) (by kernel_rfl) (fun _ _ _ h => h) rfl (by assumption) ?_)
      (try simp only [Act.put, List.setIfInBounds_toArray, List.set_cons_zero, List.set_cons_succ])
      refine wpAnyH_ready (rs := [2, 7]) (by kernel_rfl) (by simp) ?_
      refine AllReadyH.cons rfl (fun K hK => ?_) (AllReadyH.cons rfl (fun K hK => ?_) (AllReadyH.nil))
      · rw [if_pos (by rfl)]
        go_simp
        go_at_call 8
        refine (toNote_any n _).mono ?_
        rintro e wa ⟨rfl, hbwa⟩
        have RF := Lib.hid (RF.out.below (Below.next (by first | exact (Below.refl _ _).drew | exact hHeld.2.2) hbwa))
        have hQwa : Below (w4.alloc (.cells #[.slice t4.ch.A t4.ch.l.length t4.ch.c, .slice t4.st.A t4.st.l.length t4.st.c, .slice t4.no.A t4.no.l.length t4.no.c] 35)).heap.size (w4.alloc (.cells #[.slice t4.ch.A t4.ch.l.length t4.ch.c, .slice t4.st.A t4.st.l.length t4.st.c, .slice t4.no.A t4.no.l.length t4.no.c] 35)) wa := Below.next hHeld.2.2 hbwa
        have hzwa := hbwa.size
        (try simp only [World.size_alloc, World.size_drew] at hzwa)
        have hywa := hQwa.size
        (try simp only [World.size_alloc, World.size_drew] at hywa)
        refine hK.out _ _ ?_ (fun hHeld2 => ?_)
        · (try dsimp only); exact SB.mk hQwa
        clear hK K hHeld; have hHeld := hHeld2; clear hHeld2; (try simp only [Act.put, List.setIfInBounds_toArray, List.set_cons_zero, List.set_cons_succ])
        refine wpAnyH_ready (rs := [3, 7]) (by kernel_rfl) (by simp) ?_
        refine AllReadyH.cons rfl (fun K hK => ?_) (AllReadyH.cons rfl (fun K hK => ?_) (AllReadyH.nil))
        · rw [if_pos (by rfl)]
          go_simp
          go_at_call 9
          refine (iAddNote_L t4 p0 q n v code _ RF.out X0_p.out HSZp0.out HTXp0.out hx HV HCR.out).mono ?_
          rintro e wb ⟨fwb, rfl, hpwb, howb, hbwb⟩
          have hQwb : Below (w4.alloc (.cells #[.slice t4.ch.A t4.ch.l.length t4.ch.c, .slice t4.st.A t4.st.l.length t4.st.c, .slice t4.no.A t4.no.l.length t4.no.c] 35)).heap.size (w4.alloc (.cells #[.slice t4.ch.A t4.ch.l.length t4.ch.c, .slice t4.st.A t4.st.l.length t4.st.c, .slice t4.no.A t4.no.l.length t4.no.c] 35)) wb := Below.next hHeld.2.2 hbwb
          have hzwb := hbwb.size
          (try simp only [World.size_alloc, World.size_drew] at hzwb)
          have hywb := hQwb.size
          (try simp only [World.size_alloc, World.size_drew] at hywb)
          refine hK.out _ _ ?_ (fun hHeld2 => ?_)
          · (try dsimp only); exact SB.mk hQwb
          clear hK K hHeld; have hHeld := hHeld2; clear hHeld2; (try simp only [Act.put, List.setIfInBounds_toArray, List.set_cons_zero, List.set_cons_succ])
          first | (refine take_on (i := 4) (v := ?_) rfl (by kernel_rfl) (by kernel_rfl) (by kernel_rfl) (fun _ _ _ h => h) rfl ?_ (by assumption) ?_; rotate_left; · (intro w' hSw; (try dsimp only at hSw); go_simp; (try with_reducible rfl))) | (refine take_off (i := 4) rfl (by kernel_rfl) (by kernel_rfl) (by kernel_rfl) (fun _ _ _ h => h) rfl (by assumption) ?_)
          (try simp only [Act.put, List.setIfInBounds_toArray, List.set_cons_zero, List.set_cons_succ])
          first | (refine take_on (i := 5) (v := ?_) rfl (by kernel_rfl) (by kernel_rfl) (by kernel_rfl) (fun _ _ _ h => h) rfl ?_ (by assumption) ?_; rotate_left; · (intro w' hSw; (try dsimp only at hSw); go_simp; (try with_reducible rfl))) | (refine take_off (i := 5) rfl (by kernel_rfl) (by kernel_rfl) (by kernel_rfl) (fun _ _ _ h => h) rfl (by assumption) ?_)
          (try simp only [Act.put, List.setIfInBounds_toArray, List.set_cons_zero, List.set_cons_succ])
          first | (refine take_on (i := 6) (v := ?_) rfl (by kernel_rfl) (by kernel_rfl) (by kernel_rfl) (fun _ _ _ h => h) rfl ?_ (by assumption) ?_; rotate_left; · (intro w' hSw; (try dsimp only at hSw); go_simp; (try with_reducible rfl))) | (refine take_off (i := 6) rfl (by kernel_rfl) (by kernel_rfl) (by kernel_rfl) (fun _ _ _ h => h) rfl (by assumption) ?_)
          (try simp only [Act.put, List.setIfInBounds_toArray, List.set_cons_zero, List.set_cons_succ])
          refine wpAnyH_ready (rs := [7]) (by kernel_rfl) (by simp) ?_
          refine AllReadyH.cons rfl (fun K hK => ?_) AllReadyH.nil
          rw [if_pos (by rfl)]
          go_simp
          refine hK.out _ _ ?_ (fun hHeld2 => ?_)
          · (try dsimp only); exact SB.mk (hHeld.2.2.alloc hHeld.2.1 _)
          clear hK K hHeld; have hHeld := hHeld2; clear hHeld2; (try simp only [Act.put, List.setIfInBounds_toArray, List.set_cons_zero, List.set_cons_succ])
          refine wpAnyH_ready (rs := [8]) (by kernel_rfl) (by simp) ?_
          refine AllReadyH.cons rfl (fun K hK => ?_) AllReadyH.nil
          rw [if_pos (by rfl)]
          go_simp
          refine hK.out _ _ ?_ (fun hHeld2 => ?_)
          · (try dsimp only); exact SB.mk (hQwb.alloc hQwb.size _)
          clear hK K hHeld; have hHeld := hHeld2; clear hHeld2; (try simp only [Act.put, List.setIfInBounds_toArray, List.set_cons_zero, List.set_cons_succ])
          first | (refine take_on (i := 9) (v := ?_) rfl (by kernel_rfl) (by kernel_rfl) (by kernel_rfl) (fun _ _ _ h => h) rfl ?_ (by assumption) ?_; rotate_left; · (intro w' hSw; (try dsimp only at hSw); go_simp; (try with_reducible rfl))) | (refine take_off (i := 9) rfl (by kernel_rfl) (by kernel_rfl) (by kernel_rfl) (fun _ _ _ h => h) rfl (by assumption) ?_)
          (try simp only [Act.put, List.setIfInBounds_toArray, List.set_cons_zero, List.set_cons_succ])
          refine wpAnyH_done (by kernel_rfl) ?_ _
          have hF := hHeld.2.2
          clear hHeld
          go_wp2_with fail
          go_meet
          have hk3 := Bk.new wb #[.slice fwb.ch.A fwb.ch.l.length fwb.ch.c, .slice fwb.st.A fwb.st.l.length fwb.st.c, .slice fwb.no.A fwb.no.l.length fwb.no.c] 35
          refine ⟨_, fwb, _, _, rfl, rfl, hk3.cell 0, hk3.cell 1, hk3.cell 2, by simp, hpwb, howb.alloc _, .inr (Nat.le_refl _), ?_, ?_, ?_, by omega, hF⟩
          all_goals (try simp only [World.size_alloc, World.size_drew])
          all_goals omega
        · rw [if_pos (by rfl)]
          go_simp
          refine hK.out _ _ ?_ (fun hHeld2 => ?_)
          · (try dsimp only); exact SB.mk (hHeld.2.2.alloc hHeld.2.1 _)
          clear hK K hHeld; have hHeld := hHeld2; clear hHeld2; (try simp only [Act.put, List.setIfInBounds_toArray, List.set_cons_zero, List.set_cons_succ])
          have RF := Lib.hid (RF.out.alloc (.cells #[.slice none 0 0, .slice none 0 0, .slice none 0 0] 35))
          have hbk : Bk _ (wa.heap.size) 35 #[.slice none 0 0, .slice none 0 0, .slice none 0 0] := Bk.new wa _ _
          have hbge : w4.heap.size + 1 ≤ wa.heap.size := by omega
          have hbv : wa.heap.size ≤ wa.heap.size := Nat.le_refl _
          refine wpAnyH_ready (rs := [3]) (by kernel_rfl) (by simp) ?_
          refine AllReadyH.cons rfl (fun K hK => ?_) (AllReadyH.nil)
          rw [if_pos (by rfl)]
          go_simp
          have lbb := hbk.lt
          go_at_call 9
          refine (iAddNote_L t4 p0 q n v code _ RF.out X0_p.out HSZp0.out HTXp0.out hx HV HCR.out).mono ?_
          rintro e wb ⟨fwb, rfl, hpwb, howb, hbwb⟩
          have hQwb : Below (w4.alloc (.cells #[.slice t4.ch.A t4.ch.l.length t4.ch.c, .slice t4.st.A t4.st.l.length t4.st.c, .slice t4.no.A t4.no.l.length t4.no.c] 35)).heap.size (w4.alloc (.cells #[.slice t4.ch.A t4.ch.l.length t4.ch.c, .slice t4.st.A t4.st.l.length t4.st.c, .slice t4.no.A t4.no.l.length t4.no.c] 35)) wb := Below.next hHeld.2.2 hbwb
          have hzwb := hbwb.size
          (try simp only [World.size_alloc, World.size_drew] at hzwb)
          have hywb := hQwb.size
          (try simp only [World.size_alloc, World.size_drew] at hywb)
          have hbk := hbk.next hbwb
          refine hK.out _ _ ?_ (fun hHeld2 => ?_)
          · (try dsimp only); exact SB.mk hQwb
          clear hK K hHeld; have hHeld := hHeld2; clear hHeld2; (try simp only [Act.put, List.setIfInBounds_toArray, List.set_cons_zero, List.set_cons_succ])
          first | (refine take_on (i := 4) (v := ?_) rfl (by kernel_rfl) (by kernel_rfl) (by kernel_rfl) (fun _ _ _ h => h) rfl ?_ (by assumption) ?_; rotate_left; · (intro w' hSw; (try dsimp only at hSw); go_simp; (try with_reducible rfl))) | (refine take_off (i := 4) rfl (by kernel_rfl) (by kernel_rfl) (by kernel_rfl) (fun _ _ _ h => h) rfl (by assumption) ?_)
          (try simp only [Act.put, List.setIfInBounds_toArray, List.set_cons_zero, List.set_cons_succ])
          first | (refine take_on (i := 5) (v := ?_) rfl (by kernel_rfl) (by kernel_rfl) (by kernel_rfl) (fun _ _ _ h => h) rfl ?_ (by assumption) ?_; rotate_left; · (intro w' hSw; (try dsimp only at hSw); go_simp; (try with_reducible rfl))) | (refine take_off (i := 5) rfl (by kernel_rfl) (by kernel_rfl) (by kernel_rfl) (fun _ _ _ h => h) rfl (by assumption) ?_)
          (try simp only [Act.put, List.setIfInBounds_toArray, List.set_cons_zero, List.set_cons_succ])
          first | (refine take_on (i := 6) (v := ?_) rfl (by kernel_rfl) (by kernel_rfl) (by kernel_rfl) (fun _ _ _ h => h) rfl ?_ (by assumption) ?_; rotate_left; · (intro w' hSw; (try dsimp only at hSw); go_simp; (try with_reducible rfl))) | (refine take_off (i := 6) rfl (by kernel_rfl) (by kernel_rfl) (by kernel_rfl) (fun _ _ _ h => h) rfl (by assumption) ?_)
          (try simp only [Act.put, List.setIfInBounds_toArray, List.set_cons_zero, List.set_cons_succ])
          have ebk0 := hbk.cell 0
          have ebk1 := hbk.cell 1
          have ebk2 := hbk.cell 2
          have fbk0 := hbk.frozen 0
          have fbk1 := hbk.frozen 1
          have fbk2 := hbk.frozen 2
          have lbk := hbk.lt
          refine wpAnyH_ready (rs := [8]) (by kernel_rfl) (by simp) ?_
          refine AllReadyH.cons rfl (fun K hK => ?_) AllReadyH.nil
          rw [if_pos (by rfl)]
          go_simp
          refine hK.out _ _ ?_ (fun hHeld2 => ?_)
          · (try dsimp only); exact SB.mk (((hQwb.setCell (by (try simp only [World.size_alloc]); omega) _).setCell (by (try simp only [World.size_alloc]); omega) _).setCell (by (try simp only [World.size_alloc]); omega) _)
          clear hK K hHeld; have hHeld := hHeld2; clear hHeld2; (try simp only [Act.put, List.setIfInBounds_toArray, List.set_cons_zero, List.set_cons_succ])
          first | (refine take_on (i := 9) (v := ?_) rfl (by kernel_rfl) (by kernel_rfl) (by kernel_rfl) (fun _ _ _ h => h) rfl ?_ (by assumption) ?_; rotate_left; · (intro w' hSw; (try dsimp only at hSw); go_simp; (try with_reducible rfl))) | (refine take_off (i := 9) rfl (by kernel_rfl) (by kernel_rfl) (by kernel_rfl) (fun _ _ _ h => h) rfl (by assumption) ?_)
          (try simp only [Act.put, List.setIfInBounds_toArray, List.set_cons_zero, List.set_cons_succ])
          refine wpAnyH_done (by kernel_rfl) ?_ _
          have hF := hHeld.2.2
          clear hHeld
          go_wp2_with fail
          go_meet
          have hblo : _ < _ := lbb
          have hk3 := ((hbk.put 0 (.slice fwb.ch.A fwb.ch.l.length fwb.ch.c)).put 1 (.slice fwb.st.A fwb.st.l.length fwb.st.c)).put 2 (.slice fwb.no.A fwb.no.l.length fwb.no.c)
          have ho3 := ((howb.set (o := 0) (u := .slice fwb.ch.A fwb.ch.l.length fwb.ch.c) hblo).set (o := 1) (u := .slice fwb.st.A fwb.st.l.length fwb.st.c) hblo).set (o := 2) (u := .slice fwb.no.A fwb.no.l.length fwb.no.c) hblo
          refine ⟨_, fwb, _, _, rfl, rfl, hk3.cell 0, hk3.cell 1, hk3.cell 2, hk3.lt, hpwb, ho3, .inl hblo, ?_, ?_, ?_, by omega, hF⟩
          all_goals (try simp only [World.size_alloc, World.size_drew, World.setCell, Array.size_modify])
          all_goals omega
      · rw [if_pos (by rfl)]
        go_simp
        refine hK.out _ _ ?_ (fun hHeld2 => ?_)
        · (try dsimp only); exact SB.mk (hHeld.2.2.alloc hHeld.2.1 _)
        clear hK K hHeld; have hHeld := hHeld2; clear hHeld2; (try simp only [Act.put, List.setIfInBounds_toArray, List.set_cons_zero, List.set_cons_succ])
        have RF := Lib.hid (RF.out.drew.alloc (.cells #[.slice none 0 0, .slice none 0 0, .slice none 0 0] 35))
        have e9 : (w4.alloc (.cells #[.slice t4.ch.A t4.ch.l.length t4.ch.c, .slice t4.st.A t4.st.l.length t4.st.c, .slice t4.no.A t4.no.l.length t4.no.c] 35)).drew.heap.size = w4.heap.size + 1 := by simp only [World.size_drew, World.size_alloc]
        have hbk : Bk ((w4.alloc (.cells #[.slice t4.ch.A t4.ch.l.length t4.ch.c, .slice t4.st.A t4.st.l.length t4.st.c, .slice t4.no.A t4.no.l.length t4.no.c] 35)).drew.alloc (.cells #[.slice none 0 0, .slice none 0 0, .slice none 0 0] 35)) (w4.heap.size + 1) 35 #[.slice none 0 0, .slice none 0 0, .slice none 0 0] := e9 ▸ Bk.new (w4.alloc (.cells #[.slice t4.ch.A t4.ch.l.length t4.ch.c, .slice t4.st.A t4.st.l.length t4.st.c, .slice t4.no.A t4.no.l.length t4.no.c] 35)).drew _ _
        clear e9
        have hbge : w4.heap.size + 1 ≤ w4.heap.size + 1 := by omega
        have hbv : w4.heap.size + 1 ≤ w4.heap.size + 1 := Nat.le_refl _
        refine wpAnyH_ready (rs := [2]) (by kernel_rfl) (by simp) ?_
        refine AllReadyH.cons rfl (fun K hK => ?_) (AllReadyH.nil)
        rw [if_pos (by rfl)]
        go_simp
        go_at_call 8
        refine (toNote_any n _).mono ?_
        rintro e wa ⟨rfl, hbwa⟩
        have RF := Lib.hid (RF.out.below (hbwa))
        have hQwa : Below (w4.alloc (.cells #[.slice t4.ch.A t4.ch.l.length t4.ch.c, .slice t4.st.A t4.st.l.length t4.st.c, .slice t4.no.A t4.no.l.length t4.no.c] 35)).heap.size (w4.alloc (.cells #[.slice t4.ch.A t4.ch.l.length t4.ch.c, .slice t4.st.A t4.st.l.length t4.st.c, .slice t4.no.A t4.no.l.length t4.no.c] 35)) wa := Below.next hHeld.2.2 hbwa
        have hzwa := hbwa.size
        (try simp only [World.size_alloc, World.size_drew] at hzwa)
        have hywa := hQwa.size
        (try simp only [World.size_alloc, World.size_drew] at hywa)
        have hbk := hbk.next hbwa
        refine hK.out _ _ ?_ (fun hHeld2 => ?_)
        · (try dsimp only); exact SB.mk hQwa
        clear hK K hHeld; have hHeld := hHeld2; clear hHeld2; (try simp only [Act.put, List.setIfInBounds_toArray, List.set_cons_zero, List.set_cons_succ])
        refine wpAnyH_ready (rs := [3]) (by kernel_rfl) (by simp) ?_
        refine AllReadyH.cons rfl (fun K hK => ?_) (AllReadyH.nil)
        rw [if_pos (by rfl)]
        go_simp
        have lbb := hbk.lt
        go_at_call 9
        refine (iAddNote_L t4 p0 q n v code _ RF.out X0_p.out HSZp0.out HTXp0.out hx HV HCR.out).mono ?_
        rintro e wb ⟨fwb, rfl, hpwb, howb, hbwb⟩
        have hQwb : Below (w4.alloc (.cells #[.slice t4.ch.A t4.ch.l.length t4.ch.c, .slice t4.st.A t4.st.l.length t4.st.c, .slice t4.no.A t4.no.l.length t4.no.c] 35)).heap.size (w4.alloc (.cells #[.slice t4.ch.A t4.ch.l.length t4.ch.c, .slice t4.st.A t4.st.l.length t4.st.c, .slice t4.no.A t4.no.l.length t4.no.c] 35)) wb := Below.next hHeld.2.2 hbwb
        have hzwb := hbwb.size
        (try simp only [World.size_alloc, World.size_drew] at hzwb)
        have hywb := hQwb.size
        (try simp only [World.size_alloc, World.size_drew] at hywb)
        have hbk := hbk.next hbwb
        refine hK.out _ _ ?_ (fun hHeld2 => ?_)
        · (try dsimp only); exact SB.mk hQwb
        clear hK K hHeld; have hHeld := hHeld2; clear hHeld2; (try simp only [Act.put, List.setIfInBounds_toArray, List.set_cons_zero, List.set_cons_succ])
        first | (refine take_on (i := 4) (v := ?_) rfl (by kernel_rfl) (by kernel_rfl) (by kernel_rfl) (fun _ _ _ h => h) rfl ?_ (by assumption) ?_; rotate_left; · (intro w' hSw; (try dsimp only at hSw); go_simp; (try with_reducible rfl))) | (refine take_off (i := 4) rfl (by kernel_rfl) (by kernel_rfl) (by kernel_rfl) (fun _ _ _ h => h) rfl (by assumption) ?_)
        (try simp only [Act.put, List.setIfInBounds_toArray, List.set_cons_zero, List.set_cons_succ])
        first | (refine take_on (i := 5) (v := ?_) rfl (by kernel_rfl) (by kernel_rfl) (by kernel_rfl) (fun _ _ _ h => h) rfl ?_ (by assumption) ?_; rotate_left; · (intro w' hSw; (try dsimp only at hSw); go_simp; (try with_reducible rfl))) | (refine take_off (i := 5) rfl (by kernel_rfl) (by kernel_rfl) (by kernel_rfl) (fun _ _ _ h => h) rfl (by assumption) ?_)
        (try simp only [Act.put, List.setIfInBounds_toArray, List.set_cons_zero, List.set_cons_succ])
        first | (refine take_on (i := 6) (v := ?_) rfl (by kernel_rfl) (by kernel_rfl) (by kernel_rfl) (fun _ _ _ h => h) rfl ?_ (by assumption) ?_; rotate_left; · (intro w' hSw; (try dsimp only at hSw); go_simp; (try with_reducible rfl))) | (refine take_off (i := 6) rfl (by kernel_rfl) (by kernel_rfl) (by kernel_rfl) (fun _ _ _ h => h) rfl (by assumption) ?_)
        (try simp only [Act.put, List.setIfInBounds_toArray, List.set_cons_zero, List.set_cons_succ])
        have ebk0 := hbk.cell 0
        have ebk1 := hbk.cell 1
        have ebk2 := hbk.cell 2
        have fbk0 := hbk.frozen 0
        have fbk1 := hbk.frozen 1
        have fbk2 := hbk.frozen 2
        have lbk := hbk.lt
        refine wpAnyH_ready (rs := [8]) (by kernel_rfl) (by simp) ?_
        refine AllReadyH.cons rfl (fun K hK => ?_) AllReadyH.nil
        rw [if_pos (by rfl)]
        go_simp
        refine hK.out _ _ ?_ (fun hHeld2 => ?_)
        · (try dsimp only); exact SB.mk (((hQwb.setCell (by (try simp only [World.size_alloc]); omega) _).setCell (by (try simp only [World.size_alloc]); omega) _).setCell (by (try simp only [World.size_alloc]); omega) _)
        clear hK K hHeld; have hHeld := hHeld2; clear hHeld2; (try simp only [Act.put, List.setIfInBounds_toArray, List.set_cons_zero, List.set_cons_succ])
        first | (refine take_on (i := 9) (v := ?_) rfl (by kernel_rfl) (by kernel_rfl) (by kernel_rfl) (fun _ _ _ h => h) rfl ?_ (by assumption) ?_; rotate_left; · (intro w' hSw; (try dsimp only at hSw); go_simp; (try with_reducible rfl))) | (refine take_off (i := 9) rfl (by kernel_rfl) (by kernel_rfl) (by kernel_rfl) (fun _ _ _ h => h) rfl (by assumption) ?_)
        (try simp only [Act.put, List.setIfInBounds_toArray, List.set_cons_zero, List.set_cons_succ])
        refine wpAnyH_done (by kernel_rfl) ?_ _
        have hF := hHeld.2.2
        clear hHeld
        go_wp2_with fail
        go_meet
        have hblo : _ < _ := lbb
        have hk3 := ((hbk.put 0 (.slice fwb.ch.A fwb.ch.l.length fwb.ch.c)).put 1 (.slice fwb.st.A fwb.st.l.length fwb.st.c)).put 2 (.slice fwb.no.A fwb.no.l.length fwb.no.c)
        have ho3 := ((howb.set (o := 0) (u := .slice fwb.ch.A fwb.ch.l.length fwb.ch.c) hblo).set (o := 1) (u := .slice fwb.st.A fwb.st.l.length fwb.st.c) hblo).set (o := 2) (u := .slice fwb.no.A fwb.no.l.length fwb.no.c) hblo
        refine ⟨_, fwb, _, _, rfl, rfl, hk3.cell 0, hk3.cell 1, hk3.cell 2, hk3.lt, hpwb, ho3, .inl hblo, ?_, ?_, ?_, by omega, hF⟩
        all_goals (try simp only [World.size_alloc, World.size_drew, World.setCell, Array.size_modify])
        all_goals omega
    case rest =>
      clear RF
      obtain ⟨w5, rfl⟩ : ∃ x, x = wc := ⟨wc, rfl⟩
      obtain ⟨b5, fr5, lo5, hi5, rfl, rfl, hca5, hcb5, hcc5, hbl5, hp5, ho5, hbd5, hlh5, hlo5, hhi5, hbg5, hb5⟩ := hcut
      have hB5 : Below w4.heap.size w4 w5 := Below.next (by go_grown) hb5
      have hT5 : Below w.heap.size w w5 := Below.next hT4 hB5
      have hz5 := hb5.size
      (try simp only [World.size_alloc, World.size_drew] at hz5)
      have bx0_l5 : w.heap.size < w5.heap.size := Nat.lt_of_lt_of_le bx0_l4 hB5.size
      have bx0_0_5 : w5.cell? ⟨w.heap.size, 0, none⟩ = some (.slice f0.ch.A f0.ch.l.length f0.ch.c) := (hB5.cell (p := ⟨w.heap.size, 0, none⟩) bx0_l4).trans bx0_0_4
      have bx0_1_5 : w5.cell? ⟨w.heap.size, 1, none⟩ = some (.slice f0.st.A f0.st.l.length f0.st.c) := (hB5.cell (p := ⟨w.heap.size, 1, none⟩) bx0_l4).trans bx0_1_4
      have bx0_2_5 : w5.cell? ⟨w.heap.size, 2, none⟩ = some (.slice f0.no.A f0.no.l.length f0.no.c) := (hB5.cell (p := ⟨w.heap.size, 2, none⟩) bx0_l4).trans bx0_2_4
      have bn_l5 : w.heap.size + 1 < w5.heap.size := Nat.lt_of_lt_of_le bn_l4 hB5.size
      have bn_0_5 : w5.cell? ⟨w.heap.size + 1, 0, none⟩ = some (.int .i64 n.fr) := (hB5.cell (p := ⟨w.heap.size + 1, 0, none⟩) bn_l4).trans bn_0_4
      have bn_1_5 : w5.cell? ⟨w.heap.size + 1, 1, none⟩ = some (.int .i64 n.til) := (hB5.cell (p := ⟨w.heap.size + 1, 1, none⟩) bn_l4).trans bn_1_4
      have bn_2_5 : w5.cell? ⟨w.heap.size + 1, 2, none⟩ = some (.string n.text) := (hB5.cell (p := ⟨w.heap.size + 1, 2, none⟩) bn_l4).trans bn_2_4
      have bW0_l5 : b3 < w5.heap.size := Nat.lt_of_lt_of_le bW0_l4 hB5.size
      have bW0_0_5 : w5.cell? ⟨b3, 0, none⟩ = some (.slice fr3.ch.A fr3.ch.l.length fr3.ch.c) := (hB5.cell (p := ⟨b3, 0, none⟩) bW0_l4).trans bW0_0_4
      have bW0_1_5 : w5.cell? ⟨b3, 1, none⟩ = some (.slice fr3.st.A fr3.st.l.length fr3.st.c) := (hB5.cell (p := ⟨b3, 1, none⟩) bW0_l4).trans bW0_1_4
      have bW0_2_5 : w5.cell? ⟨b3, 2, none⟩ = some (.slice fr3.no.A fr3.no.l.length fr3.no.c) := (hB5.cell (p := ⟨b3, 2, none⟩) bW0_l4).trans bW0_2_4
      have bX0_l5 : w4.heap.size < w5.heap.size := by omega
      have bX0_0_5 : w5.cell? ⟨w4.heap.size, 0, none⟩ = some (.slice t4.ch.A t4.ch.l.length t4.ch.c) := (hb5.cell (p := ⟨w4.heap.size, 0, none⟩) (by (try simp only [World.size_alloc, World.size_drew]); omega)).trans (by go_simp)
      have bX0_1_5 : w5.cell? ⟨w4.heap.size, 1, none⟩ = some (.slice t4.st.A t4.st.l.length t4.st.c) := (hb5.cell (p := ⟨w4.heap.size, 1, none⟩) (by (try simp only [World.size_alloc, World.size_drew]); omega)).trans (by go_simp)
      have bX0_2_5 : w5.cell? ⟨w4.heap.size, 2, none⟩ = some (.slice t4.no.A t4.no.l.length t4.no.c) := (hb5.cell (p := ⟨w4.heap.size, 2, none⟩) (by (try simp only [World.size_alloc, World.size_drew]); omega)).trans (by go_simp)
      clear bx0_l4 bx0_0_4 bx0_1_4 bx0_2_4 bn_l4 bn_0_4 bn_1_4 bn_2_4 bW0_l4 bW0_0_4 bW0_1_4 bW0_2_4
      have HF0_5 := Lib.hid (HF0_0.out.below hT5)
      clear HF0_4
      have W0_5 := Lib.hid (W0_4.out.next hB5)
      have X0_5 := Lib.hid (X0_4.out.next hB5)
      clear W0_4 X0_4
      have G0_5 := ho5
      clear ho5
      have G0_p := hp5
      clear hp5
      have bG0_l5 := hbl5
      have bG0_0_5 := hca5
      have bG0_1_5 := hcb5
      have bG0_2_5 := hcc5
      go_wp2_with fail
      refine (eqFile_L fr5 fr3 q _ (by first | exact G0_5.out.rd | exact G0_5.out.rd.alloc _ | exact (G0_5.out.rd.alloc _).alloc _ | exact ((G0_5.out.rd.alloc _).alloc _).alloc _ | exact (((G0_5.out.rd.alloc _).alloc _).alloc _).alloc _ | exact G0_5.out.rd.drew | exact (G0_5.out.rd.drew).alloc _) (by first | exact W0_5.out.rd | exact W0_5.out.rd.alloc _ | exact (W0_5.out.rd.alloc _).alloc _ | exact ((W0_5.out.rd.alloc _).alloc _).alloc _ | exact (((W0_5.out.rd.alloc _).alloc _).alloc _).alloc _ | exact W0_5.out.rd.drew | exact (W0_5.out.rd.drew).alloc _) G0_p.out W0_p.out HSZq.out).mono ?_
      rintro e w6 ⟨rfl, hb6⟩
      have hB6 : Below w5.heap.size w5 w6 := Below.next (by go_grown) hb6
      have hT6 : Below w.heap.size w w6 := Below.next hT5 hB6
      have hz6 := hb6.size
      (try simp only [World.size_alloc, World.size_drew] at hz6)
      have bx0_l6 : w.heap.size < w6.heap.size := Nat.lt_of_lt_of_le bx0_l5 hB6.size
      have bx0_0_6 : w6.cell? ⟨w.heap.size, 0, none⟩ = some (.slice f0.ch.A f0.ch.l.length f0.ch.c) := (hB6.cell (p := ⟨w.heap.size, 0, none⟩) bx0_l5).trans bx0_0_5
      have bx0_1_6 : w6.cell? ⟨w.heap.size, 1, none⟩ = some (.slice f0.st.A f0.st.l.length f0.st.c) := (hB6.cell (p := ⟨w.heap.size, 1, none⟩) bx0_l5).trans bx0_1_5
      have bx0_2_6 : w6.cell? ⟨w.heap.size, 2, none⟩ = some (.slice f0.no.A f0.no.l.length f0.no.c) := (hB6.cell (p := ⟨w.heap.size, 2, none⟩) bx0_l5).trans bx0_2_5
      have bn_l6 : w.heap.size + 1 < w6.heap.size := Nat.lt_of_lt_of_le bn_l5 hB6.size
      have bn_0_6 : w6.cell? ⟨w.heap.size + 1, 0, none⟩ = some (.int .i64 n.fr) := (hB6.cell (p := ⟨w.heap.size + 1, 0, none⟩) bn_l5).trans bn_0_5
      have bn_1_6 : w6.cell? ⟨w.heap.size + 1, 1, none⟩ = some (.int .i64 n.til) := (hB6.cell (p := ⟨w.heap.size + 1, 1, none⟩) bn_l5).trans bn_1_5
      have bn_2_6 : w6.cell? ⟨w.heap.size + 1, 2, none⟩ = some (.string n.text) := (hB6.cell (p := ⟨w.heap.size + 1, 2, none⟩) bn_l5).trans bn_2_5
      have bW0_l6 : b3 < w6.heap.size := Nat.lt_of_lt_of_le bW0_l5 hB6.size
      have bW0_0_6 : w6.cell? ⟨b3, 0, none⟩ = some (.slice fr3.ch.A fr3.ch.l.length fr3.ch.c) := (hB6.cell (p := ⟨b3, 0, none⟩) bW0_l5).trans bW0_0_5
      have bW0_1_6 : w6.cell? ⟨b3, 1, none⟩ = some (.slice fr3.st.A fr3.st.l.length fr3.st.c) := (hB6.cell (p := ⟨b3, 1, none⟩) bW0_l5).trans bW0_1_5
      have bW0_2_6 : w6.cell? ⟨b3, 2, none⟩ = some (.slice fr3.no.A fr3.no.l.length fr3.no.c) := (hB6.cell (p := ⟨b3, 2, none⟩) bW0_l5).trans bW0_2_5
      have bX0_l6 : w4.heap.size < w6.heap.size := Nat.lt_of_lt_of_le bX0_l5 hB6.size
      have bX0_0_6 : w6.cell? ⟨w4.heap.size, 0, none⟩ = some (.slice t4.ch.A t4.ch.l.length t4.ch.c) := (hB6.cell (p := ⟨w4.heap.size, 0, none⟩) bX0_l5).trans bX0_0_5
      have bX0_1_6 : w6.cell? ⟨w4.heap.size, 1, none⟩ = some (.slice t4.st.A t4.st.l.length t4.st.c) := (hB6.cell (p := ⟨w4.heap.size, 1, none⟩) bX0_l5).trans bX0_1_5
      have bX0_2_6 : w6.cell? ⟨w4.heap.size, 2, none⟩ = some (.slice t4.no.A t4.no.l.length t4.no.c) := (hB6.cell (p := ⟨w4.heap.size, 2, none⟩) bX0_l5).trans bX0_2_5
      have bG0_l6 : b5 < w6.heap.size := Nat.lt_of_lt_of_le bG0_l5 hB6.size
      have bG0_0_6 : w6.cell? ⟨b5, 0, none⟩ = some (.slice fr5.ch.A fr5.ch.l.length fr5.ch.c) := (hB6.cell (p := ⟨b5, 0, none⟩) bG0_l5).trans bG0_0_5
      have bG0_1_6 : w6.cell? ⟨b5, 1, none⟩ = some (.slice fr5.st.A fr5.st.l.length fr5.st.c) := (hB6.cell (p := ⟨b5, 1, none⟩) bG0_l5).trans bG0_1_5
      have bG0_2_6 : w6.cell? ⟨b5, 2, none⟩ = some (.slice fr5.no.A fr5.no.l.length fr5.no.c) := (hB6.cell (p := ⟨b5, 2, none⟩) bG0_l5).trans bG0_2_5
      clear bx0_l5 bx0_0_5 bx0_1_5 bx0_2_5 bn_l5 bn_0_5 bn_1_5 bn_2_5 bW0_l5 bW0_0_5 bW0_1_5 bW0_2_5 bX0_l5 bX0_0_5 bX0_1_5 bX0_2_5 bG0_l5 bG0_0_5 bG0_1_5 bG0_2_5
      have HF0_6 := Lib.hid (HF0_0.out.below hT6)
      clear HF0_5
      have W0_6 := Lib.hid (W0_5.out.next hB6)
      have X0_6 := Lib.hid (X0_5.out.next hB6)
      have G0_6 := Lib.hid (G0_5.out.next hB6)
      clear W0_5 X0_5 G0_5
      go_wp2_with fail
      refine wp_region_held_drew (S := (fun w' => (∀ kb ko, kb < w6.heap.size → w'.cell? ⟨kb, ko, none⟩ = w6.cell? ⟨kb, ko, none⟩) ∧ w6.heap.size ≤ w'.heap.size ∧ Below w6.heap.size w6 w')) (by kernel_rfl) ?_ (fun hHeld => ?_)
      · (try dsimp only); (first | exact SB.mk hkB | exact SB.mk ((Below.refl _ _).drew) | (refine SB.mk ?_; go_grown; done) | (go_split_ands; refine SB.mk (Below.drew ?_); assumption) | (go_split_ands; refine SB.mk ?_; go_grown; done))
      first | (refine take_on (i := 0) (v := ?_) rfl (by kernel_rfl) (by kernel_rfl) (by kernel_rfl) (fun _ _ _ h => h) rfl ?_ (by assumption) ?_; rotate_left; · (intro w' hSw; (try dsimp only at hSw); go_simp; (try with_reducible rfl))) | (refine take_off (i := 0) rfl (by kernel_rfl) (by kernel_rfl) (by kernel_rfl) (fun _ _ _ h => h) rfl (by assumption) ?_)
      (try simp only [Act.put, List.setIfInBounds_toArray, List.set_cons_zero, List.set_cons_succ])
      first | (refine take_on (i := 1) (v := ?_) rfl (by kernel_rfl) (by kernel_rfl) (by kernel_rfl) (fun _ _ _ h => h) rfl ?_ (by assumption) ?_; rotate_left; · (intro w' hSw; (try dsimp only at hSw); go_simp; (try with_reducible rfl))) | (refine take_off (i := 1) rfl (by kernel_rfl) (by kernel_rfl) (by kernel_rfl) (fun _ _ _ h => h) rfl (by assumption) ?_)
      (try simp only [Act.put, List.setIfInBounds_toArray, List.set_cons_zero, List.set_cons_succ])
      refine wpAnyH_ready (rs := [2]) (by kernel_rfl) (by simp) ?_
      refine AllReadyH.cons rfl (fun K hK => ?_) AllReadyH.nil
      rw [if_pos (by rfl)]
      go_simp
      go_at_call 7
      refine (toFile_L f0 p0 _ (by first | exact HF0_6.out | exact HF0_6.out.alloc _ | exact (HF0_6.out.alloc _).alloc _ | exact ((HF0_6.out.alloc _).alloc _).alloc _ | exact HF0_6.out.drew | exact (HF0_6.out.drew).alloc _) HP0.out HSZp0.out).mono ?_
      rintro e w7 ⟨t7, rfl, hp7, ho7, hb7⟩
      have hB7 : Below w6.heap.size w6 w7 := Below.next (by go_grown) hb7
      have hT7 : Below w.heap.size w w7 := Below.next hT6 hB7
      have hz7 := hb7.size
      (try simp only [World.size_alloc, World.size_drew] at hz7)
      have bx0_l7 : w.heap.size < w7.heap.size := Nat.lt_of_lt_of_le bx0_l6 hB7.size
      have bx0_0_7 : w7.cell? ⟨w.heap.size, 0, none⟩ = some (.slice f0.ch.A f0.ch.l.length f0.ch.c) := (hB7.cell (p := ⟨w.heap.size, 0, none⟩) bx0_l6).trans bx0_0_6
      have bx0_1_7 : w7.cell? ⟨w.heap.size, 1, none⟩ = some (.slice f0.st.A f0.st.l.length f0.st.c) := (hB7.cell (p := ⟨w.heap.size, 1, none⟩) bx0_l6).trans bx0_1_6
      have bx0_2_7 : w7.cell? ⟨w.heap.size, 2, none⟩ = some (.slice f0.no.A f0.no.l.length f0.no.c) := (hB7.cell (p := ⟨w.heap.size, 2, none⟩) bx0_l6).trans bx0_2_6
      have bn_l7 : w.heap.size + 1 < w7.heap.size := Nat.lt_of_lt_of_le bn_l6 hB7.size
      have bn_0_7 : w7.cell? ⟨w.heap.size + 1, 0, none⟩ = some (.int .i64 n.fr) := (hB7.cell (p := ⟨w.heap.size + 1, 0, none⟩) bn_l6).trans bn_0_6
      have bn_1_7 : w7.cell? ⟨w.heap.size + 1, 1, none⟩ = some (.int .i64 n.til) := (hB7.cell (p := ⟨w.heap.size + 1, 1, none⟩) bn_l6).trans bn_1_6
      have bn_2_7 : w7.cell? ⟨w.heap.size + 1, 2, none⟩ = some (.string n.text) := (hB7.cell (p := ⟨w.heap.size + 1, 2, none⟩) bn_l6).trans bn_2_6
      have bW0_l7 : b3 < w7.heap.size := Nat.lt_of_lt_of_le bW0_l6 hB7.size
      have bW0_0_7 : w7.cell? ⟨b3, 0, none⟩ = some (.slice fr3.ch.A fr3.ch.l.length fr3.ch.c) := (hB7.cell (p := ⟨b3, 0, none⟩) bW0_l6).trans bW0_0_6
      have bW0_1_7 : w7.cell? ⟨b3, 1, none⟩ = some (.slice fr3.st.A fr3.st.l.length fr3.st.c) := (hB7.cell (p := ⟨b3, 1, none⟩) bW0_l6).trans bW0_1_6
      have bW0_2_7 : w7.cell? ⟨b3, 2, none⟩ = some (.slice fr3.no.A fr3.no.l.length fr3.no.c) := (hB7.cell (p := ⟨b3, 2, none⟩) bW0_l6).trans bW0_2_6
      have bX0_l7 : w4.heap.size < w7.heap.size := Nat.lt_of_lt_of_le bX0_l6 hB7.size
      have bX0_0_7 : w7.cell? ⟨w4.heap.size, 0, none⟩ = some (.slice t4.ch.A t4.ch.l.length t4.ch.c) := (hB7.cell (p := ⟨w4.heap.size, 0, none⟩) bX0_l6).trans bX0_0_6
      have bX0_1_7 : w7.cell? ⟨w4.heap.size, 1, none⟩ = some (.slice t4.st.A t4.st.l.length t4.st.c) := (hB7.cell (p := ⟨w4.heap.size, 1, none⟩) bX0_l6).trans bX0_1_6
      have bX0_2_7 : w7.cell? ⟨w4.heap.size, 2, none⟩ = some (.slice t4.no.A t4.no.l.length t4.no.c) := (hB7.cell (p := ⟨w4.heap.size, 2, none⟩) bX0_l6).trans bX0_2_6
      have bG0_l7 : b5 < w7.heap.size := Nat.lt_of_lt_of_le bG0_l6 hB7.size
      have bG0_0_7 : w7.cell? ⟨b5, 0, none⟩ = some (.slice fr5.ch.A fr5.ch.l.length fr5.ch.c) := (hB7.cell (p := ⟨b5, 0, none⟩) bG0_l6).trans bG0_0_6
      have bG0_1_7 : w7.cell? ⟨b5, 1, none⟩ = some (.slice fr5.st.A fr5.st.l.length fr5.st.c) := (hB7.cell (p := ⟨b5, 1, none⟩) bG0_l6).trans bG0_1_6
      have bG0_2_7 : w7.cell? ⟨b5, 2, none⟩ = some (.slice fr5.no.A fr5.no.l.length fr5.no.c) := (hB7.cell (p := ⟨b5, 2, none⟩) bG0_l6).trans bG0_2_6
      clear bx0_l6 bx0_0_6 bx0_1_6 bx0_2_6 bn_l6 bn_0_6 bn_1_6 bn_2_6 bW0_l6 bW0_0_6 bW0_1_6 bW0_2_6 bX0_l6 bX0_0_6 bX0_1_6 bX0_2_6 bG0_l6 bG0_0_6 bG0_1_6 bG0_2_6
      have HF0_7 := Lib.hid (HF0_0.out.below hT7)
      clear HF0_6
      have W0_7 := Lib.hid (W0_6.out.next hB7)
      have X0_7 := Lib.hid (X0_6.out.next hB7)
      have G0_7 := Lib.hid (G0_6.out.next hB7)
      clear W0_6 X0_6 G0_6
      refine hK.out _ _ ?_ (fun hHeld2 => ?_)
      · (try dsimp only); exact SB.mk (Below.next (by go_grown) hb7)
      have hQ0 : Below w6.heap.size w6 w7 := Below.next (by go_grown) hb7
      clear hK K hHeld; have hHeld := hHeld2; clear hHeld2; (try simp only [Act.put, List.setIfInBounds_toArray, List.set_cons_zero, List.set_cons_succ])
      have XE_7 : Hid (FileMine w7 (w6.heap.size) (w7.heap.size) t7) := by have h := ho7; (try simp only [World.size_alloc, World.size_drew] at h); exact h
      have XE_p : Hid (filePl t7 = p0) := hp7
      clear ho7 hp7
      refine wpAnyH_ready (rs := [3]) (by kernel_rfl) (by simp) ?_
      refine AllReadyH.cons rfl (fun K hK => ?_) AllReadyH.nil
      rw [if_pos (by rfl)]
      go_simp
      go_at_call 10
      refine (eqFile_L t4 t7 p0 _ (by first | exact X0_7.out.rd | exact X0_7.out.rd.alloc _ | exact (X0_7.out.rd.alloc _).alloc _ | exact ((X0_7.out.rd.alloc _).alloc _).alloc _ | exact (((X0_7.out.rd.alloc _).alloc _).alloc _).alloc _ | exact X0_7.out.rd.drew | exact (X0_7.out.rd.drew).alloc _) (by first | exact XE_7.out.rd | exact XE_7.out.rd.alloc _ | exact (XE_7.out.rd.alloc _).alloc _ | exact ((XE_7.out.rd.alloc _).alloc _).alloc _ | exact (((XE_7.out.rd.alloc _).alloc _).alloc _).alloc _ | exact XE_7.out.rd.drew | exact (XE_7.out.rd.drew).alloc _) X0_p.out XE_p.out HSZp0.out).mono ?_
      rintro e w8 ⟨rfl, hb8⟩
      have hB8 : Below w7.heap.size w7 w8 := Below.next (by go_grown) hb8
      have hT8 : Below w.heap.size w w8 := Below.next hT7 hB8
      have hz8 := hb8.size
      (try simp only [World.size_alloc, World.size_drew] at hz8)
      have bx0_l8 : w.heap.size < w8.heap.size := Nat.lt_of_lt_of_le bx0_l7 hB8.size
      have bx0_0_8 : w8.cell? ⟨w.heap.size, 0, none⟩ = some (.slice f0.ch.A f0.ch.l.length f0.ch.c) := (hB8.cell (p := ⟨w.heap.size, 0, none⟩) bx0_l7).trans bx0_0_7
      have bx0_1_8 : w8.cell? ⟨w.heap.size, 1, none⟩ = some (.slice f0.st.A f0.st.l.length f0.st.c) := (hB8.cell (p := ⟨w.heap.size, 1, none⟩) bx0_l7).trans bx0_1_7
      have bx0_2_8 : w8.cell? ⟨w.heap.size, 2, none⟩ = some (.slice f0.no.A f0.no.l.length f0.no.c) := (hB8.cell (p := ⟨w.heap.size, 2, none⟩) bx0_l7).trans bx0_2_7
      have bn_l8 : w.heap.size + 1 < w8.heap.size := Nat.lt_of_lt_of_le bn_l7 hB8.size
      have bn_0_8 : w8.cell? ⟨w.heap.size + 1, 0, none⟩ = some (.int .i64 n.fr) := (hB8.cell (p := ⟨w.heap.size + 1, 0, none⟩) bn_l7).trans bn_0_7
      have bn_1_8 : w8.cell? ⟨w.heap.size + 1, 1, none⟩ = some (.int .i64 n.til) := (hB8.cell (p := ⟨w.heap.size + 1, 1, none⟩) bn_l7).trans bn_1_7
      have bn_2_8 : w8.cell? ⟨w.heap.size + 1, 2, none⟩ = some (.string n.text) := (hB8.cell (p := ⟨w.heap.size + 1, 2, none⟩) bn_l7).trans bn_2_7
      have bW0_l8 : b3 < w8.heap.size := Nat.lt_of_lt_of_le bW0_l7 hB8.size
      have bW0_0_8 : w8.cell? ⟨b3, 0, none⟩ = some (.slice fr3.ch.A fr3.ch.l.length fr3.ch.c) := (hB8.cell (p := ⟨b3, 0, none⟩) bW0_l7).trans bW0_0_7
      have bW0_1_8 : w8.cell? ⟨b3, 1, none⟩ = some (.slice fr3.st.A fr3.st.l.length fr3.st.c) := (hB8.cell (p := ⟨b3, 1, none⟩) bW0_l7).trans bW0_1_7
      have bW0_2_8 : w8.cell? ⟨b3, 2, none⟩ = some (.slice fr3.no.A fr3.no.l.length fr3.no.c) := (hB8.cell (p := ⟨b3, 2, none⟩) bW0_l7).trans bW0_2_7
      have bX0_l8 : w4.heap.size < w8.heap.size := Nat.lt_of_lt_of_le bX0_l7 hB8.size
      have bX0_0_8 : w8.cell? ⟨w4.heap.size, 0, none⟩ = some (.slice t4.ch.A t4.ch.l.length t4.ch.c) := (hB8.cell (p := ⟨w4.heap.size, 0, none⟩) bX0_l7).trans bX0_0_7
      have bX0_1_8 : w8.cell? ⟨w4.heap.size, 1, none⟩ = some (.slice t4.st.A t4.st.l.length t4.st.c) := (hB8.cell (p := ⟨w4.heap.size, 1, none⟩) bX0_l7).trans bX0_1_7
      have bX0_2_8 : w8.cell? ⟨w4.heap.size, 2, none⟩ = some (.slice t4.no.A t4.no.l.length t4.no.c) := (hB8.cell (p := ⟨w4.heap.size, 2, none⟩) bX0_l7).trans bX0_2_7
      have bG0_l8 : b5 < w8.heap.size := Nat.lt_of_lt_of_le bG0_l7 hB8.size
      have bG0_0_8 : w8.cell? ⟨b5, 0, none⟩ = some (.slice fr5.ch.A fr5.ch.l.length fr5.ch.c) := (hB8.cell (p := ⟨b5, 0, none⟩) bG0_l7).trans bG0_0_7
      have bG0_1_8 : w8.cell? ⟨b5, 1, none⟩ = some (.slice fr5.st.A fr5.st.l.length fr5.st.c) := (hB8.cell (p := ⟨b5, 1, none⟩) bG0_l7).trans bG0_1_7
      have bG0_2_8 : w8.cell? ⟨b5, 2, none⟩ = some (.slice fr5.no.A fr5.no.l.length fr5.no.c) := (hB8.cell (p := ⟨b5, 2, none⟩) bG0_l7).trans bG0_2_7
      clear bx0_l7 bx0_0_7 bx0_1_7 bx0_2_7 bn_l7 bn_0_7 bn_1_7 bn_2_7 bW0_l7 bW0_0_7 bW0_1_7 bW0_2_7 bX0_l7 bX0_0_7 bX0_1_7 bX0_2_7 bG0_l7 bG0_0_7 bG0_1_7 bG0_2_7
      have HF0_8 := Lib.hid (HF0_0.out.below hT8)
      clear HF0_7
      have W0_8 := Lib.hid (W0_7.out.next hB8)
      have X0_8 := Lib.hid (X0_7.out.next hB8)
      have G0_8 := Lib.hid (G0_7.out.next hB8)
      clear W0_7 X0_7 G0_7
      refine hK.out _ _ ?_ (fun hHeld2 => ?_)
      · (try dsimp only); exact SB.mk (Below.next hQ0 hB8)
      have hQ0 : Below w6.heap.size w6 w8 := Below.next hQ0 hB8
      clear hK K hHeld; have hHeld := hHeld2; clear hHeld2; (try simp only [Act.put, List.setIfInBounds_toArray, List.set_cons_zero, List.set_cons_succ])
      first | (refine take_on (i := 4) (v := ?_) rfl (by kernel_rfl) (by kernel_rfl) (by kernel_rfl) (fun _ _ _ h => h) rfl ?_ (by assumption) ?_; rotate_left; · (intro w' hSw; (try dsimp only at hSw); go_simp; (try with_reducible rfl))) | (refine take_off (i := 4) rfl (by kernel_rfl) (by kernel_rfl) (by kernel_rfl) (fun _ _ _ h => h) rfl (by assumption) ?_)
      (try simp only [Act.put, List.setIfInBounds_toArray, List.set_cons_zero, List.set_cons_succ])
      refine wpAnyH_done (by kernel_rfl) ?_ _
      clear hHeld
      clear hQ0
      go_wp2_with fail
      refine (markFile_L t4 (w3.heap.size) (w4.heap.size) p0 mmp0 _ (by first | exact X0_8.out | exact X0_8.out.alloc _ | exact (X0_8.out.alloc _).alloc _ | exact ((X0_8.out.alloc _).alloc _).alloc _ | exact (((X0_8.out.alloc _).alloc _).alloc _).alloc _ | exact X0_8.out.drew | exact (X0_8.out.drew).alloc _) (by omega) X0_p.out HSZp0.out HMMp0.out).mono ?_
      rintro e w9 ⟨rfl, _, hc9⟩
      have hz9 : w8.heap.size ≤ w9.heap.size := hc9.size
      have hT9 : Below w.heap.size w w9 := hT8.trans ((hc9.below (by omega)).mono (by omega))
      have bx0_l9 : w.heap.size < w9.heap.size := Nat.lt_of_lt_of_le bx0_l8 hz9
      have bx0_0_9 : w9.cell? ⟨w.heap.size, 0, none⟩ = some (.slice f0.ch.A f0.ch.l.length f0.ch.c) := (hc9.cell 0 bx0_l8 (by omega)).trans bx0_0_8
      have bx0_1_9 : w9.cell? ⟨w.heap.size, 1, none⟩ = some (.slice f0.st.A f0.st.l.length f0.st.c) := (hc9.cell 1 bx0_l8 (by omega)).trans bx0_1_8
      have bx0_2_9 : w9.cell? ⟨w.heap.size, 2, none⟩ = some (.slice f0.no.A f0.no.l.length f0.no.c) := (hc9.cell 2 bx0_l8 (by omega)).trans bx0_2_8
      have bn_l9 : w.heap.size + 1 < w9.heap.size := Nat.lt_of_lt_of_le bn_l8 hz9
      have bn_0_9 : w9.cell? ⟨w.heap.size + 1, 0, none⟩ = some (.int .i64 n.fr) := (hc9.cell 0 bn_l8 (by omega)).trans bn_0_8
      have bn_1_9 : w9.cell? ⟨w.heap.size + 1, 1, none⟩ = some (.int .i64 n.til) := (hc9.cell 1 bn_l8 (by omega)).trans bn_1_8
      have bn_2_9 : w9.cell? ⟨w.heap.size + 1, 2, none⟩ = some (.string n.text) := (hc9.cell 2 bn_l8 (by omega)).trans bn_2_8
      have bW0_l9 : b3 < w9.heap.size := Nat.lt_of_lt_of_le bW0_l8 hz9
      have bW0_0_9 : w9.cell? ⟨b3, 0, none⟩ = some (.slice fr3.ch.A fr3.ch.l.length fr3.ch.c) := (hc9.cell 0 bW0_l8 (by omega)).trans bW0_0_8
      have bW0_1_9 : w9.cell? ⟨b3, 1, none⟩ = some (.slice fr3.st.A fr3.st.l.length fr3.st.c) := (hc9.cell 1 bW0_l8 (by omega)).trans bW0_1_8
      have bW0_2_9 : w9.cell? ⟨b3, 2, none⟩ = some (.slice fr3.no.A fr3.no.l.length fr3.no.c) := (hc9.cell 2 bW0_l8 (by omega)).trans bW0_2_8
      have bX0_l9 : w4.heap.size < w9.heap.size := Nat.lt_of_lt_of_le bX0_l8 hz9
      have bX0_0_9 : w9.cell? ⟨w4.heap.size, 0, none⟩ = some (.slice t4.ch.A t4.ch.l.length t4.ch.c) := (hc9.cell 0 bX0_l8 (by omega)).trans bX0_0_8
      have bX0_1_9 : w9.cell? ⟨w4.heap.size, 1, none⟩ = some (.slice t4.st.A t4.st.l.length t4.st.c) := (hc9.cell 1 bX0_l8 (by omega)).trans bX0_1_8
      have bX0_2_9 : w9.cell? ⟨w4.heap.size, 2, none⟩ = some (.slice t4.no.A t4.no.l.length t4.no.c) := (hc9.cell 2 bX0_l8 (by omega)).trans bX0_2_8
      have bG0_l9 : b5 < w9.heap.size := Nat.lt_of_lt_of_le bG0_l8 hz9
      have bG0_0_9 : w9.cell? ⟨b5, 0, none⟩ = some (.slice fr5.ch.A fr5.ch.l.length fr5.ch.c) := (hc9.cell 0 bG0_l8 (by omega)).trans bG0_0_8
      have bG0_1_9 : w9.cell? ⟨b5, 1, none⟩ = some (.slice fr5.st.A fr5.st.l.length fr5.st.c) := (hc9.cell 1 bG0_l8 (by omega)).trans bG0_1_8
      have bG0_2_9 : w9.cell? ⟨b5, 2, none⟩ = some (.slice fr5.no.A fr5.no.l.length fr5.no.c) := (hc9.cell 2 bG0_l8 (by omega)).trans bG0_2_8
      have HF0_9 := Lib.hid (HF0_0.out.below hT9)
      clear X0_8 HF0_8 bx0_l8 bx0_0_8 bx0_1_8 bx0_2_8 bn_l8 bn_0_8 bn_1_8 bn_2_8 bW0_l8 bW0_0_8 bW0_1_8 bW0_2_8 bX0_l8 bX0_0_8 bX0_1_8 bX0_2_8 bG0_l8 bG0_0_8 bG0_1_8 bG0_2_8
      have W0_9 := Lib.hid (W0_8.out.keepChg hc9 (by omega))
      clear W0_8
      have G0_9 := Lib.hid (G0_8.out.keepChg hc9 (by omega))
      clear G0_8
      go_wp2_with fail
      refine (eqFile_L fr5 fr3 q _ (by first | exact G0_9.out.rd | exact G0_9.out.rd.alloc _ | exact (G0_9.out.rd.alloc _).alloc _ | exact ((G0_9.out.rd.alloc _).alloc _).alloc _ | exact (((G0_9.out.rd.alloc _).alloc _).alloc _).alloc _ | exact G0_9.out.rd.drew | exact (G0_9.out.rd.drew).alloc _) (by first | exact W0_9.out.rd | exact W0_9.out.rd.alloc _ | exact (W0_9.out.rd.alloc _).alloc _ | exact ((W0_9.out.rd.alloc _).alloc _).alloc _ | exact (((W0_9.out.rd.alloc _).alloc _).alloc _).alloc _ | exact W0_9.out.rd.drew | exact (W0_9.out.rd.drew).alloc _) G0_p.out W0_p.out HSZq.out).mono ?_
      rintro e w10 ⟨rfl, hb10⟩
      have hB10 : Below w9.heap.size w9 w10 := Below.next (by go_grown) hb10
      have hT10 : Below w.heap.size w w10 := Below.next hT9 hB10
      have hz10 := hb10.size
      (try simp only [World.size_alloc, World.size_drew] at hz10)
      have bx0_l10 : w.heap.size < w10.heap.size := Nat.lt_of_lt_of_le bx0_l9 hB10.size
      have bx0_0_10 : w10.cell? ⟨w.heap.size, 0, none⟩ = some (.slice f0.ch.A f0.ch.l.length f0.ch.c) := (hB10.cell (p := ⟨w.heap.size, 0, none⟩) bx0_l9).trans bx0_0_9
      have bx0_1_10 : w10.cell? ⟨w.heap.size, 1, none⟩ = some (.slice f0.st.A f0.st.l.length f0.st.c) := (hB10.cell (p := ⟨w.heap.size, 1, none⟩) bx0_l9).trans bx0_1_9
      have bx0_2_10 : w10.cell? ⟨w.heap.size, 2, none⟩ = some (.slice f0.no.A f0.no.l.length f0.no.c) := (hB10.cell (p := ⟨w.heap.size, 2, none⟩) bx0_l9).trans bx0_2_9
      have bn_l10 : w.heap.size + 1 < w10.heap.size := Nat.lt_of_lt_of_le bn_l9 hB10.size
      have bn_0_10 : w10.cell? ⟨w.heap.size + 1, 0, none⟩ = some (.int .i64 n.fr) := (hB10.cell (p := ⟨w.heap.size + 1, 0, none⟩) bn_l9).trans bn_0_9
      have bn_1_10 : w10.cell? ⟨w.heap.size + 1, 1, none⟩ = some (.int .i64 n.til) := (hB10.cell (p := ⟨w.heap.size + 1, 1, none⟩) bn_l9).trans bn_1_9
      have bn_2_10 : w10.cell? ⟨w.heap.size + 1, 2, none⟩ = some (.string n.text) := (hB10.cell (p := ⟨w.heap.size + 1, 2, none⟩) bn_l9).trans bn_2_9
      have bW0_l10 : b3 < w10.heap.size := Nat.lt_of_lt_of_le bW0_l9 hB10.size
      have bW0_0_10 : w10.cell? ⟨b3, 0, none⟩ = some (.slice fr3.ch.A fr3.ch.l.length fr3.ch.c) := (hB10.cell (p := ⟨b3, 0, none⟩) bW0_l9).trans bW0_0_9
      have bW0_1_10 : w10.cell? ⟨b3, 1, none⟩ = some (.slice fr3.st.A fr3.st.l.length fr3.st.c) := (hB10.cell (p := ⟨b3, 1, none⟩) bW0_l9).trans bW0_1_9
      have bW0_2_10 : w10.cell? ⟨b3, 2, none⟩ = some (.slice fr3.no.A fr3.no.l.length fr3.no.c) := (hB10.cell (p := ⟨b3, 2, none⟩) bW0_l9).trans bW0_2_9
      have bX0_l10 : w4.heap.size < w10.heap.size := Nat.lt_of_lt_of_le bX0_l9 hB10.size
      have bX0_0_10 : w10.cell? ⟨w4.heap.size, 0, none⟩ = some (.slice t4.ch.A t4.ch.l.length t4.ch.c) := (hB10.cell (p := ⟨w4.heap.size, 0, none⟩) bX0_l9).trans bX0_0_9
      have bX0_1_10 : w10.cell? ⟨w4.heap.size, 1, none⟩ = some (.slice t4.st.A t4.st.l.length t4.st.c) := (hB10.cell (p := ⟨w4.heap.size, 1, none⟩) bX0_l9).trans bX0_1_9
      have bX0_2_10 : w10.cell? ⟨w4.heap.size, 2, none⟩ = some (.slice t4.no.A t4.no.l.length t4.no.c) := (hB10.cell (p := ⟨w4.heap.size, 2, none⟩) bX0_l9).trans bX0_2_9
      have bG0_l10 : b5 < w10.heap.size := Nat.lt_of_lt_of_le bG0_l9 hB10.size
      have bG0_0_10 : w10.cell? ⟨b5, 0, none⟩ = some (.slice fr5.ch.A fr5.ch.l.length fr5.ch.c) := (hB10.cell (p := ⟨b5, 0, none⟩) bG0_l9).trans bG0_0_9
      have bG0_1_10 : w10.cell? ⟨b5, 1, none⟩ = some (.slice fr5.st.A fr5.st.l.length fr5.st.c) := (hB10.cell (p := ⟨b5, 1, none⟩) bG0_l9).trans bG0_1_9
      have bG0_2_10 : w10.cell? ⟨b5, 2, none⟩ = some (.slice fr5.no.A fr5.no.l.length fr5.no.c) := (hB10.cell (p := ⟨b5, 2, none⟩) bG0_l9).trans bG0_2_9
      clear bx0_l9 bx0_0_9 bx0_1_9 bx0_2_9 bn_l9 bn_0_9 bn_1_9 bn_2_9 bW0_l9 bW0_0_9 bW0_1_9 bW0_2_9 bX0_l9 bX0_0_9 bX0_1_9 bX0_2_9 bG0_l9 bG0_0_9 bG0_1_9 bG0_2_9
      have HF0_10 := Lib.hid (HF0_0.out.below hT10)
      clear HF0_9
      have W0_10 := Lib.hid (W0_9.out.next hB10)
      have G0_10 := Lib.hid (G0_9.out.next hB10)
      clear W0_9 G0_9
      go_wp2_with fail
      refine (markFile_L fr5 (lo5) (hi5) q mmq _ (by first | exact G0_10.out | exact G0_10.out.alloc _ | exact (G0_10.out.alloc _).alloc _ | exact ((G0_10.out.alloc _).alloc _).alloc _ | exact (((G0_10.out.alloc _).alloc _).alloc _).alloc _ | exact G0_10.out.drew | exact (G0_10.out.drew).alloc _) (by omega) G0_p.out HSZq.out HMMq.out).mono ?_
      rintro e w11 ⟨rfl, ho11, hc11⟩
      have hz11 : w10.heap.size ≤ w11.heap.size := hc11.size
      have hT11 : Below w.heap.size w w11 := hT10.trans ((hc11.below (by omega)).mono (by omega))
      have G0_11 : Hid (FileMine w11 (lo5) (hi5) (mkFile 1 fr5)) := ho11
      clear ho11
      have bx0_l11 : w.heap.size < w11.heap.size := Nat.lt_of_lt_of_le bx0_l10 hz11
      have bx0_0_11 : w11.cell? ⟨w.heap.size, 0, none⟩ = some (.slice f0.ch.A f0.ch.l.length f0.ch.c) := (hc11.cell 0 bx0_l10 (by omega)).trans bx0_0_10
      have bx0_1_11 : w11.cell? ⟨w.heap.size, 1, none⟩ = some (.slice f0.st.A f0.st.l.length f0.st.c) := (hc11.cell 1 bx0_l10 (by omega)).trans bx0_1_10
      have bx0_2_11 : w11.cell? ⟨w.heap.size, 2, none⟩ = some (.slice f0.no.A f0.no.l.length f0.no.c) := (hc11.cell 2 bx0_l10 (by omega)).trans bx0_2_10
      have bn_l11 : w.heap.size + 1 < w11.heap.size := Nat.lt_of_lt_of_le bn_l10 hz11
      have bn_0_11 : w11.cell? ⟨w.heap.size + 1, 0, none⟩ = some (.int .i64 n.fr) := (hc11.cell 0 bn_l10 (by omega)).trans bn_0_10
      have bn_1_11 : w11.cell? ⟨w.heap.size + 1, 1, none⟩ = some (.int .i64 n.til) := (hc11.cell 1 bn_l10 (by omega)).trans bn_1_10
      have bn_2_11 : w11.cell? ⟨w.heap.size + 1, 2, none⟩ = some (.string n.text) := (hc11.cell 2 bn_l10 (by omega)).trans bn_2_10
      have bW0_l11 : b3 < w11.heap.size := Nat.lt_of_lt_of_le bW0_l10 hz11
      have bW0_0_11 : w11.cell? ⟨b3, 0, none⟩ = some (.slice fr3.ch.A fr3.ch.l.length fr3.ch.c) := (hc11.cell 0 bW0_l10 (by omega)).trans bW0_0_10
      have bW0_1_11 : w11.cell? ⟨b3, 1, none⟩ = some (.slice fr3.st.A fr3.st.l.length fr3.st.c) := (hc11.cell 1 bW0_l10 (by omega)).trans bW0_1_10
      have bW0_2_11 : w11.cell? ⟨b3, 2, none⟩ = some (.slice fr3.no.A fr3.no.l.length fr3.no.c) := (hc11.cell 2 bW0_l10 (by omega)).trans bW0_2_10
      have bG0_l11 : b5 < w11.heap.size := Nat.lt_of_lt_of_le bG0_l10 hz11
      have bG0_0_11 : w11.cell? ⟨b5, 0, none⟩ = some (.slice fr5.ch.A fr5.ch.l.length fr5.ch.c) := (hc11.cell 0 bG0_l10 (by omega)).trans bG0_0_10
      have bG0_1_11 : w11.cell? ⟨b5, 1, none⟩ = some (.slice fr5.st.A fr5.st.l.length fr5.st.c) := (hc11.cell 1 bG0_l10 (by omega)).trans bG0_1_10
      have bG0_2_11 : w11.cell? ⟨b5, 2, none⟩ = some (.slice fr5.no.A fr5.no.l.length fr5.no.c) := (hc11.cell 2 bG0_l10 (by omega)).trans bG0_2_10
      have HF0_11 := Lib.hid (HF0_0.out.below hT11)
      clear G0_10 HF0_10 bx0_l10 bx0_0_10 bx0_1_10 bx0_2_10 bn_l10 bn_0_10 bn_1_10 bn_2_10 bW0_l10 bW0_0_10 bW0_1_10 bW0_2_10 bG0_l10 bG0_0_10 bG0_1_10 bG0_2_10
      have W0_11 := Lib.hid (W0_10.out.keepChg hc11 (by omega))
      clear W0_10
      go_wp2_with fail
      refine (heldFile_L fr5 q mmq _ (by first | exact G0_11.out.rd | exact G0_11.out.rd.alloc _ | exact (G0_11.out.rd.alloc _).alloc _ | exact ((G0_11.out.rd.alloc _).alloc _).alloc _ | exact (((G0_11.out.rd.alloc _).alloc _).alloc _).alloc _ | exact G0_11.out.rd.drew | exact (G0_11.out.rd.drew).alloc _) G0_p.out HSZq.out HMMq.out).mono ?_
      rintro e w12 ⟨rfl, hb12⟩
      have hB12 : Below w11.heap.size w11 w12 := Below.next (by go_grown) hb12
      have hT12 : Below w.heap.size w w12 := Below.next hT11 hB12
      have hz12 := hb12.size
      (try simp only [World.size_alloc, World.size_drew] at hz12)
      have bx0_l12 : w.heap.size < w12.heap.size := Nat.lt_of_lt_of_le bx0_l11 hB12.size
      have bx0_0_12 : w12.cell? ⟨w.heap.size, 0, none⟩ = some (.slice f0.ch.A f0.ch.l.length f0.ch.c) := (hB12.cell (p := ⟨w.heap.size, 0, none⟩) bx0_l11).trans bx0_0_11
      have bx0_1_12 : w12.cell? ⟨w.heap.size, 1, none⟩ = some (.slice f0.st.A f0.st.l.length f0.st.c) := (hB12.cell (p := ⟨w.heap.size, 1, none⟩) bx0_l11).trans bx0_1_11
      have bx0_2_12 : w12.cell? ⟨w.heap.size, 2, none⟩ = some (.slice f0.no.A f0.no.l.length f0.no.c) := (hB12.cell (p := ⟨w.heap.size, 2, none⟩) bx0_l11).trans bx0_2_11
      have bn_l12 : w.heap.size + 1 < w12.heap.size := Nat.lt_of_lt_of_le bn_l11 hB12.size
      have bn_0_12 : w12.cell? ⟨w.heap.size + 1, 0, none⟩ = some (.int .i64 n.fr) := (hB12.cell (p := ⟨w.heap.size + 1, 0, none⟩) bn_l11).trans bn_0_11
      have bn_1_12 : w12.cell? ⟨w.heap.size + 1, 1, none⟩ = some (.int .i64 n.til) := (hB12.cell (p := ⟨w.heap.size + 1, 1, none⟩) bn_l11).trans bn_1_11
      have bn_2_12 : w12.cell? ⟨w.heap.size + 1, 2, none⟩ = some (.string n.text) := (hB12.cell (p := ⟨w.heap.size + 1, 2, none⟩) bn_l11).trans bn_2_11
      have bW0_l12 : b3 < w12.heap.size := Nat.lt_of_lt_of_le bW0_l11 hB12.size
      have bW0_0_12 : w12.cell? ⟨b3, 0, none⟩ = some (.slice fr3.ch.A fr3.ch.l.length fr3.ch.c) := (hB12.cell (p := ⟨b3, 0, none⟩) bW0_l11).trans bW0_0_11
      have bW0_1_12 : w12.cell? ⟨b3, 1, none⟩ = some (.slice fr3.st.A fr3.st.l.length fr3.st.c) := (hB12.cell (p := ⟨b3, 1, none⟩) bW0_l11).trans bW0_1_11
      have bW0_2_12 : w12.cell? ⟨b3, 2, none⟩ = some (.slice fr3.no.A fr3.no.l.length fr3.no.c) := (hB12.cell (p := ⟨b3, 2, none⟩) bW0_l11).trans bW0_2_11
      have bG0_l12 : b5 < w12.heap.size := Nat.lt_of_lt_of_le bG0_l11 hB12.size
      have bG0_0_12 : w12.cell? ⟨b5, 0, none⟩ = some (.slice fr5.ch.A fr5.ch.l.length fr5.ch.c) := (hB12.cell (p := ⟨b5, 0, none⟩) bG0_l11).trans bG0_0_11
      have bG0_1_12 : w12.cell? ⟨b5, 1, none⟩ = some (.slice fr5.st.A fr5.st.l.length fr5.st.c) := (hB12.cell (p := ⟨b5, 1, none⟩) bG0_l11).trans bG0_1_11
      have bG0_2_12 : w12.cell? ⟨b5, 2, none⟩ = some (.slice fr5.no.A fr5.no.l.length fr5.no.c) := (hB12.cell (p := ⟨b5, 2, none⟩) bG0_l11).trans bG0_2_11
      clear bx0_l11 bx0_0_11 bx0_1_11 bx0_2_11 bn_l11 bn_0_11 bn_1_11 bn_2_11 bW0_l11 bW0_0_11 bW0_1_11 bW0_2_11 bG0_l11 bG0_0_11 bG0_1_11 bG0_2_11
      have HF0_12 := Lib.hid (HF0_0.out.below hT12)
      clear HF0_11
      have W0_12 := Lib.hid (W0_11.out.next hB12)
      have G0_12 := Lib.hid (G0_11.out.next hB12)
      clear W0_11 G0_11
      go_upto_region 27 with fail
      go_cut [14, 15] (fun p q9 wx => ∃ (b : Nat) (f : Fl) (lo hi : Nat), p = .pointer (some ⟨b, 0, none⟩) ∧ q9 = .int .i64 code ∧ wx.cell? ⟨b, 0, none⟩ = some (.slice f.ch.A f.ch.l.length f.ch.c) ∧ wx.cell? ⟨b, 1, none⟩ = some (.slice f.st.A f.st.l.length f.st.c) ∧ wx.cell? ⟨b, 2, none⟩ = some (.slice f.no.A f.no.l.length f.no.c) ∧ b < wx.heap.size ∧ Hid (filePl f = q) ∧ Hid (FileMine wx lo hi f) ∧ (b < lo ∨ hi ≤ b) ∧ lo ≤ hi ∧ w12.heap.size ≤ lo ∧ hi ≤ wx.heap.size ∧ w12.heap.size ≤ b ∧ Below w12.heap.size w12 wx)
      case first =>
        refine wp_region_held_drew (S := (fun w' => (∀ kb ko, kb < w12.heap.size → w'.cell? ⟨kb, ko, none⟩ = w12.cell? ⟨kb, ko, none⟩) ∧ w12.heap.size ≤ w'.heap.size ∧ Below w12.heap.size w12 w')) (by kernel_rfl) ?_ (fun hHeld => ?_)
        · (try dsimp only); exact SB.mk ((Below.refl _ _).drew)
        first | (refine take_on (i := 0) (v := ?_) rfl (by kernel_rfl) (by kernel_rfl) (by kernel_rfl) (fun _ _ _ h => h) rfl ?_ (by assumption) ?_; rotate_left; · (intro w' hSw; (try dsimp only at hSw); go_simp; (try with_reducible rfl))) | (refine take_off (i := 0) rfl (by kernel_rfl) (by kernel_rfl) (by kernel_rfl) (fun _ _ _ h => h) rfl (by assumption) ?_)
        (try simp only [Act.put, List.setIfInBounds_toArray, List.set_cons_zero, List.set_cons_succ])
        first | (refine take_on (i := 2) (v := ?_) rfl (by kernel_rfl) (by kernel_rfl) (by kernel_rfl) (fun _ _ _ h => h) rfl ?_ (by assumption) ?_; rotate_left; · (intro w' hSw; (try dsimp only at hSw); go_simp; (try with_reducible rfl))) | (refine take_off (i := 2) rfl (by kernel_rfl) (by kernel_rfl) (by kernel_rfl) (fun _ _ _ h => h) rfl (by assumption) ?_)
        (try simp only [Act.put, List.setIfInBounds_toArray, List.set_cons_zero, List.set_cons_succ])
        refine wpAnyH_ready (rs := [1, 8]) (by kernel_rfl) (by simp) ?_
        refine AllReadyH.cons rfl (fun K hK => ?_) (AllReadyH.cons rfl (fun K hK => ?_) (AllReadyH.nil))
        · rw [if_pos (by rfl)]
          go_simp
          go_at_call 7
          refine (toFile_L f0 p0 _ (HF0_12.out.below (hHeld.2.2)) HP0.out HSZp0.out).mono ?_
          rintro e wa ⟨twa, rfl, hpwa, howa, hbwa⟩
          have RF := Lib.hid howa.rd
          have RFP := Lib.hid hpwa
          have hQwa : Below w12.heap.size w12 wa := Below.next hHeld.2.2 hbwa
          have hzwa := hbwa.size
          (try simp only [World.size_alloc, World.size_drew] at hzwa)
          have hywa := hQwa.size
          (try simp only [World.size_alloc, World.size_drew] at hywa)
          refine hK.out _ _ ?_ (fun hHeld2 => ?_)
          · (try dsimp only); exact SB.mk hQwa
          clear hK K hHeld; have hHeld := hHeld2; clear hHeld2; (try simp only [Act.put, List.setIfInBounds_toArray, List.set_cons_zero, List.set_cons_succ])
          refine wpAnyH_ready (rs := [3, 8]) (by kernel_rfl) (by simp) ?_
          refine AllReadyH.cons rfl (fun K hK => ?_) (AllReadyH.cons rfl (fun K hK => ?_) (AllReadyH.nil))
          · rw [if_pos (by rfl)]
            go_simp
            go_at_call 8
            refine (toNote_any n _).mono ?_
            rintro e wb ⟨rfl, hbwb⟩
            have RF := Lib.hid (RF.out.below (hbwb))
            have hQwb : Below w12.heap.size w12 wb := Below.next hHeld.2.2 hbwb
            have hzwb := hbwb.size
            (try simp only [World.size_alloc, World.size_drew] at hzwb)
            have hywb := hQwb.size
            (try simp only [World.size_alloc, World.size_drew] at hywb)
            refine hK.out _ _ ?_ (fun hHeld2 => ?_)
            · (try dsimp only); exact SB.mk hQwb
            clear hK K hHeld; have hHeld := hHeld2; clear hHeld2; (try simp only [Act.put, List.setIfInBounds_toArray, List.set_cons_zero, List.set_cons_succ])
            refine wpAnyH_ready (rs := [4, 8]) (by kernel_rfl) (by simp) ?_
            refine AllReadyH.cons rfl (fun K hK => ?_) (AllReadyH.cons rfl (fun K hK => ?_) (AllReadyH.nil))
            · rw [if_pos (by rfl)]
              go_simp
              go_at_call 9
              refine (iAddNote_L twa p0 q n v code _ RF.out RFP.out HSZp0.out HTXp0.out hx HV HCR.out).mono ?_
              rintro e wd ⟨fwd, rfl, hpwd, howd, hbwd⟩
              have hQwd : Below w12.heap.size w12 wd := Below.next hHeld.2.2 hbwd
              have hzwd := hbwd.size
              (try simp only [World.size_alloc, World.size_drew] at hzwd)
              have hywd := hQwd.size
              (try simp only [World.size_alloc, World.size_drew] at hywd)
              refine hK.out _ _ ?_ (fun hHeld2 => ?_)
              · (try dsimp only); exact SB.mk hQwd
              clear hK K hHeld; have hHeld := hHeld2; clear hHeld2; (try simp only [Act.put, List.setIfInBounds_toArray, List.set_cons_zero, List.set_cons_succ])
              first | (refine take_on (i := 5) (v := ?_) rfl (by kernel_rfl) (by kernel_rfl) (by kernel_rfl) (fun _ _ _ h => h) rfl ?_ (by assumption) ?_; rotate_left; · (intro w' hSw; (try dsimp only at hSw); go_simp; (try with_reducible rfl))) | (refine take_off (i := 5) rfl (by kernel_rfl) (by kernel_rfl) (by kernel_rfl) (fun _ _ _ h => h) rfl (by assumption) ?_)
              (try simp only [Act.put, List.setIfInBounds_toArray, List.set_cons_zero, List.set_cons_succ])
              first | (refine take_on (i := 6) (v := ?_) rfl (by kernel_rfl) (by kernel_rfl) (by kernel_rfl) (fun _ _ _ h => h) rfl ?_ (by assumption) ?_; rotate_left; · (intro w' hSw; (try dsimp only at hSw); go_simp; (try with_reducible rfl))) | (refine take_off (i := 6) rfl (by kernel_rfl) (by kernel_rfl) (by kernel_rfl) (fun _ _ _ h => h) rfl (by assumption) ?_)
              (try simp only [Act.put, List.setIfInBounds_toArray, List.set_cons_zero, List.set_cons_succ])
              first | (refine take_on (i := 7) (v := ?_) rfl (by kernel_rfl) (by kernel_rfl) (by kernel_rfl) (fun _ _ _ h => h) rfl ?_ (by assumption) ?_; rotate_left; · (intro w' hSw; (try dsimp only at hSw); go_simp; (try with_reducible rfl))) | (refine take_off (i := 7) rfl (by kernel_rfl) (by kernel_rfl) (by kernel_rfl) (fun _ _ _ h => h) rfl (by assumption) ?_)
              (try simp only [Act.put, List.setIfInBounds_toArray, List.set_cons_zero, List.set_cons_succ])
              refine wpAnyH_ready (rs := [8]) (by kernel_rfl) (by simp) ?_
              refine AllReadyH.cons rfl (fun K hK => ?_) AllReadyH.nil
              rw [if_pos (by rfl)]
              go_simp
              refine hK.out _ _ ?_ (fun hHeld2 => ?_)
              · (try dsimp only); exact SB.mk (hHeld.2.2.alloc hHeld.2.1 _)
              clear hK K hHeld; have hHeld := hHeld2; clear hHeld2; (try simp only [Act.put, List.setIfInBounds_toArray, List.set_cons_zero, List.set_cons_succ])
              refine wpAnyH_ready (rs := [9]) (by kernel_rfl) (by simp) ?_
              refine AllReadyH.cons rfl (fun K hK => ?_) AllReadyH.nil
              rw [if_pos (by rfl)]
              go_simp
              refine hK.out _ _ ?_ (fun hHeld2 => ?_)
              · (try dsimp only); exact SB.mk (hQwd.alloc hQwd.size _)
              clear hK K hHeld; have hHeld := hHeld2; clear hHeld2; (try simp only [Act.put, List.setIfInBounds_toArray, List.set_cons_zero, List.set_cons_succ])
              first | (refine take_on (i := 10) (v := ?_) rfl (by kernel_rfl) (by kernel_rfl) (by kernel_rfl) (fun _ _ _ h => h) rfl ?_ (by assumption) ?_; rotate_left; · (intro w' hSw; (try dsimp only at hSw); go_simp; (try with_reducible rfl))) | (refine take_off (i := 10) rfl (by kernel_rfl) (by kernel_rfl) (by kernel_rfl) (fun _ _ _ h => h) rfl (by assumption) ?_)
              (try simp only [Act.put, List.setIfInBounds_toArray, List.set_cons_zero, List.set_cons_succ])
              refine wpAnyH_done (by kernel_rfl) ?_ _
              have hF := hHeld.2.2
              clear hHeld
              go_wp2_with fail
              go_meet
              have hk3 := Bk.new wd #[.slice fwd.ch.A fwd.ch.l.length fwd.ch.c, .slice fwd.st.A fwd.st.l.length fwd.st.c, .slice fwd.no.A fwd.no.l.length fwd.no.c] 35
              refine ⟨_, fwd, _, _, rfl, rfl, hk3.cell 0, hk3.cell 1, hk3.cell 2, by simp, hpwd, howd.alloc _, .inr (Nat.le_refl _), ?_, ?_, ?_, by omega, hF⟩
              all_goals (try simp only [World.size_alloc, World.size_drew])
              all_goals omega
            · rw [if_pos (by rfl)]
              go_simp
              refine hK.out _ _ ?_ (fun hHeld2 => ?_)
              · (try dsimp only); exact SB.mk (hHeld.2.2.alloc hHeld.2.1 _)
              clear hK K hHeld; have hHeld := hHeld2; clear hHeld2; (try simp only [Act.put, List.setIfInBounds_toArray, List.set_cons_zero, List.set_cons_succ])
              have RF := Lib.hid (RF.out.alloc (.cells #[.slice none 0 0, .slice none 0 0, .slice none 0 0] 35))
              have hbk : Bk _ (wb.heap.size) 35 #[.slice none 0 0, .slice none 0 0, .slice none 0 0] := Bk.new wb _ _
              have hbge : w12.heap.size ≤ wb.heap.size := by omega
              have hbv : wb.heap.size ≤ wb.heap.size := Nat.le_refl _
              refine wpAnyH_ready (rs := [4]) (by kernel_rfl) (by simp) ?_
              refine AllReadyH.cons rfl (fun K hK => ?_) (AllReadyH.nil)
              rw [if_pos (by rfl)]
              go_simp
              have lbb := hbk.lt
              go_at_call 9
              refine (iAddNote_L twa p0 q n v code _ RF.out RFP.out HSZp0.out HTXp0.out hx HV HCR.out).mono ?_
              rintro e wd ⟨fwd, rfl, hpwd, howd, hbwd⟩
              have hQwd : Below w12.heap.size w12 wd := Below.next hHeld.2.2 hbwd
              have hzwd := hbwd.size
              (try simp only [World.size_alloc, World.size_drew] at hzwd)
              have hywd := hQwd.size
              (try simp only [World.size_alloc, World.size_drew] at hywd)
              have hbk := hbk.next hbwd
              refine hK.out _ _ ?_ (fun hHeld2 => ?_)
              · (try dsimp only); exact SB.mk hQwd
              clear hK K hHeld; have hHeld := hHeld2; clear hHeld2; (try simp only [Act.put, List.setIfInBounds_toArray, List.set_cons_zero, List.set_cons_succ])
              first | (refine take_on (i := 5) (v := ?_) rfl (by kernel_rfl) (by kernel_rfl) (by kernel_rfl) (fun _ _ _ h => h) rfl ?_ (by assumption) ?_; rotate_left; · (intro w' hSw; (try dsimp only at hSw); go_simp; (try with_reducible rfl))) | (refine take_off (i := 5) rfl (by kernel_rfl) (by kernel_rfl) (by kernel_rfl) (fun _ _ _ h => h) rfl (by assumption) ?_)
              (try simp only [Act.put, List.setIfInBounds_toArray, List.set_cons_zero, List.set_cons_succ])
              first | (refine take_on (i := 6) (v := ?_) rfl (by kernel_rfl) (by kernel_rfl) (by kernel_rfl) (fun _ _ _ h => h) rfl ?_ (by assumption) ?_; rotate_left; · (intro w' hSw; (try dsimp only at hSw); go_simp; (try with_reducible rfl))) | (refine take_off (i := 6) rfl (by kernel_rfl) (by kernel_rfl) (by kernel_rfl) (fun _ _ _ h => h) rfl (by assumption) ?_)
              (try simp only [Act.put, List.setIfInBounds_toArray, List.set_cons_zero, List.set_cons_succ])
              first | (refine take_on (i := 7) (v := ?_) rfl (by kernel_rfl) (by kernel_rfl) (by kernel_rfl) (fun _ _ _ h => h) rfl ?_ (by assumption) ?_; rotate_left; · (intro w' hSw; (try dsimp only at hSw); go_simp; (try with_reducible rfl))) | (refine take_off (i := 7) rfl (by kernel_rfl) (by kernel_rfl) (by kernel_rfl) (fun _ _ _ h => h) rfl (by assumption) ?_)
              (try simp only [Act.put, List.setIfInBounds_toArray, List.set_cons_zero, List.set_cons_succ])
              have ebk0 := hbk.cell 0
              have ebk1 := hbk.cell 1
              have ebk2 := hbk.cell 2
              have fbk0 := hbk.frozen 0
              have fbk1 := hbk.frozen 1
              have fbk2 := hbk.frozen 2
              have lbk := hbk.lt
              refine wpAnyH_ready (rs := [9]) (by kernel_rfl) (by simp) ?_
              refine AllReadyH.cons rfl (fun K hK => ?_) AllReadyH.nil
              rw [if_pos (by rfl)]
              go_simp
              refine hK.out _ _ ?_ (fun hHeld2 => ?_)
              · (try dsimp only); exact SB.mk (((hQwd.setCell (by (try simp only [World.size_alloc]); omega) _).setCell (by (try simp only [World.size_alloc]); omega) _).setCell (by (try simp only [World.size_alloc]); omega) _)
              clear hK K hHeld; have hHeld := hHeld2; clear hHeld2; (try simp only [Act.put, List.setIfInBounds_toArray, List.set_cons_zero, List.set_cons_succ])
              first | (refine take_on (i := 10) (v := ?_) rfl (by kernel_rfl) (by kernel_rfl) (by kernel_rfl) (fun _ _ _ h => h) rfl ?_ (by assumption) ?_; rotate_left; · (intro w' hSw; (try dsimp only at hSw); go_simp; (try with_reducible rfl))) | (refine take_off (i := 10) rfl (by kernel_rfl) (by kernel_rfl) (by kernel_rfl) (fun _ _ _ h => h) rfl (by assumption) ?_)
              (try simp only [Act.put, List.setIfInBounds_toArray, List.set_cons_zero, List.set_cons_succ])
              refine wpAnyH_done (by kernel_rfl) ?_ _
              have hF := hHeld.2.2
              clear hHeld
              go_wp2_with fail
              go_meet
              have hblo : _ < _ := lbb
              have hk3 := ((hbk.put 0 (.slice fwd.ch.A fwd.ch.l.length fwd.ch.c)).put 1 (.slice fwd.st.A fwd.st.l.length fwd.st.c)).put 2 (.slice fwd.no.A fwd.no.l.length fwd.no.c)
              have ho3 := ((howd.set (o := 0) (u := .slice fwd.ch.A fwd.ch.l.length fwd.ch.c) hblo).set (o := 1) (u := .slice fwd.st.A fwd.st.l.length fwd.st.c) hblo).set (o := 2) (u := .slice fwd.no.A fwd.no.l.length fwd.no.c) hblo
              refine ⟨_, fwd, _, _, rfl, rfl, hk3.cell 0, hk3.cell 1, hk3.cell 2, hk3.lt, hpwd, ho3, .inl hblo, ?_, ?_, ?_, by omega, hF⟩
              all_goals (try simp only [World.size_alloc, World.size_drew, World.setCell, Array.size_modify])
              all_goals omega
          · rw [if_pos (by rfl)]
            go_simp
            refine hK.out _ _ ?_ (fun hHeld2 => ?_)
            · (try dsimp only); exact SB.mk (hHeld.2.2.alloc hHeld.2.1 _)
            clear hK K hHeld; have hHeld := hHeld2; clear hHeld2; (try simp only [Act.put, List.setIfInBounds_toArray, List.set_cons_zero, List.set_cons_succ])
            have RF := Lib.hid (RF.out.alloc (.cells #[.slice none 0 0, .slice none 0 0, .slice none 0 0] 35))
            have hbk : Bk _ (wa.heap.size) 35 #[.slice none 0 0, .slice none 0 0, .slice none 0 0] := Bk.new wa _ _
            have hbge : w12.heap.size ≤ wa.heap.size := by omega
            have hbv : wa.heap.size ≤ wa.heap.size := Nat.le_refl _
            refine wpAnyH_ready (rs := [3]) (by kernel_rfl) (by simp) ?_
            refine AllReadyH.cons rfl (fun K hK => ?_) (AllReadyH.nil)
            rw [if_pos (by rfl)]
            go_simp
            go_at_call 8
            refine (toNote_any n _).mono ?_
            rintro e wb ⟨rfl, hbwb⟩
            have RF := Lib.hid (RF.out.below (hbwb))
            have hQwb : Below w12.heap.size w12 wb := Below.next hHeld.2.2 hbwb
            have hzwb := hbwb.size
            (try simp only [World.size_alloc, World.size_drew] at hzwb)
            have hywb := hQwb.size
            (try simp only [World.size_alloc, World.size_drew] at hywb)
            have hbk := hbk.next hbwb
            refine hK.out _ _ ?_ (fun hHeld2 => ?_)
            · (try dsimp only); exact SB.mk hQwb
            clear hK K hHeld; have hHeld := hHeld2; clear hHeld2; (try simp only [Act.put, List.setIfInBounds_toArray, List.set_cons_zero, List.set_cons_succ])
            refine wpAnyH_ready (rs := [4]) (by kernel_rfl) (by simp) ?_
            refine AllReadyH.cons rfl (fun K hK => ?_) (AllReadyH.nil)
            rw [if_pos (by rfl)]
            go_simp
            have lbb := hbk.lt
            go_at_call 9
            refine (iAddNote_L twa p0 q n v code _ RF.out RFP.out HSZp0.out HTXp0.out hx HV HCR.out).mono ?_
            rintro e wd ⟨fwd, rfl, hpwd, howd, hbwd⟩
            have hQwd : Below w12.heap.size w12 wd := Below.next hHeld.2.2 hbwd
            have hzwd := hbwd.size
            (try simp only [World.size_alloc, World.size_drew] at hzwd)
            have hywd := hQwd.size
            (try simp only [World.size_alloc, World.size_drew] at hywd)
            have hbk := hbk.next hbwd
            refine hK.out _ _ ?_ (fun hHeld2 => ?_)
            · (try dsimp only); exact SB.mk hQwd
            clear hK K hHeld; have hHeld := hHeld2; clear hHeld2; (try simp only [Act.put, List.setIfInBounds_toArray, List.set_cons_zero, List.set_cons_succ])
            first | (refine take_on (i := 5) (v := ?_) rfl (by kernel_rfl) (by kernel_rfl) (by kernel_rfl) (fun _ _ _ h => h) rfl ?_ (by assumption) ?_; rotate_left; · (intro w' hSw; (try dsimp only at hSw); go_simp; (try with_reducible rfl))) | (refine take_off (i := 5) rfl (by kernel_rfl) (by kernel_rfl) (by kernel_rfl) (fun _ _ _ h => h) rfl (by assumption) ?_)
            (try simp only [Act.put, List.setIfInBounds_toArray, List.set_cons_zero, List.set_cons_succ])
            first | (refine take_on (i := 6) (v := ?_) rfl (by kernel_rfl) (by kernel_rfl) (by kernel_rfl) (fun _ _ _ h => h) rfl ?_ (by assumption) ?_; rotate_left; · (intro w' hSw; (try dsimp only at hSw); go_simp; (try with_reducible rfl))) | (refine take_off (i := 6) rfl (by kernel_rfl) (by kernel_rfl) (by kernel_rfl) (fun _ _ _ h => h) rfl (by assumption) ?_)
            (try simp only [Act.put, List.setIfInBounds_toArray, List.set_cons_zero, List.set_cons_succ])
            first | (refine take_on (i := 7) (v := ?_) rfl (by kernel_rfl) (by kernel_rfl) (by kernel_rfl) (fun _ _ _ h => h) rfl ?_ (by assumption) ?_; rotate_left; · (intro w' hSw; (try dsimp only at hSw); go_simp; (try with_reducible rfl))) | (refine take_off (i := 7) rfl (by kernel_rfl) (by kernel_rfl) (by kernel_rfl) (fun _ _ _ h => h) rfl (by assumption) ?_)
            (try simp only [Act.put, List.setIfInBounds_toArray, List.set_cons_zero, List.set_cons_succ])
            have ebk0 := hbk.cell 0
            have ebk1 := hbk.cell 1
            have ebk2 := hbk.cell 2
            have fbk0 := hbk.frozen 0
            have fbk1 := hbk.frozen 1
            have fbk2 := hbk.frozen 2
            have lbk := hbk.lt
            refine wpAnyH_ready (rs := [9]) (by kernel_rfl) (by simp) ?_
            refine AllReadyH.cons rfl (fun K hK => ?_) AllReadyH.nil
            rw [if_pos (by rfl)]
            go_simp
            refine hK.out _ _ ?_ (fun hHeld2 => ?_)
            · (try dsimp only); exact SB.mk (((hQwd.setCell (by (try simp only [World.size_alloc]); omega) _).setCell (by (try simp only [World.size_alloc]); omega) _).setCell (by (try simp only [World.size_alloc]); omega) _)
            clear hK K hHeld; have hHeld := hHeld2; clear hHeld2; (try simp only [Act.put, List.setIfInBounds_toArray, List.set_cons_zero, List.set_cons_succ])
            first | (refine take_on (i := 10) (v := ?_) rfl (by kernel_rfl) (by kernel_rfl) (by kernel_rfl) (fun _ _ _ h => h) rfl ?_ (by assumption) ?_; rotate_left; · (intro w' hSw; (try dsimp only at hSw); go_simp; (try with_reducible rfl))) | (refine take_off (i := 10) rfl (by kernel_rfl) (by kernel_rfl) (by kernel_rfl) (fun _ _ _ h => h) rfl (by assumption) ?_)
            (try simp only [Act.put, List.setIfInBounds_toArray, List.set_cons_zero, List.set_cons_succ])
            refine wpAnyH_done (by kernel_rfl) ?_ _
            have hF := hHeld.2.2
            clear hHeld
            go_wp2_with fail
            go_meet
            have hblo : _ < _ := lbb
            have hk3 := ((hbk.put 0 (.slice fwd.ch.A fwd.ch.l.length fwd.ch.c)).put 1 (.slice fwd.st.A fwd.st.l.length fwd.st.c)).put 2 (.slice fwd.no.A fwd.no.l.length fwd.no.c)
            have ho3 := ((howd.set (o := 0) (u := .slice fwd.ch.A fwd.ch.l.length fwd.ch.c) hblo).set (o := 1) (u := .slice fwd.st.A fwd.st.l.length fwd.st.c) hblo).set (o := 2) (u := .slice fwd.no.A fwd.no.l.length fwd.no.c) hblo
            refine ⟨_, fwd, _, _, rfl, rfl, hk3.cell 0, hk3.cell 1, hk3.cell 2, hk3.lt, hpwd, ho3, .inl hblo, ?_, ?_, ?_, by omega, hF⟩
            all_goals (try simp only [World.size_alloc, World.size_drew, World.setCell, Array.size_modify])
            all_goals omega
        · rw [if_pos (by rfl)]
          go_simp
          refine hK.out _ _ ?_ (fun hHeld2 => ?_)
          · (try dsimp only); exact SB.mk (hHeld.2.2.alloc hHeld.2.1 _)
          clear hK K hHeld; have hHeld := hHeld2; clear hHeld2; (try simp only [Act.put, List.setIfInBounds_toArray, List.set_cons_zero, List.set_cons_succ])
          have hbk : Bk _ (w12.heap.size) 35 #[.slice none 0 0, .slice none 0 0, .slice none 0 0] := Bk.new w12.drew _ _
          have hbge : w12.heap.size ≤ w12.heap.size := by omega
          have hbv : w12.heap.size ≤ w12.heap.size := Nat.le_refl _
          refine wpAnyH_ready (rs := [1]) (by kernel_rfl) (by simp) ?_
          refine AllReadyH.cons rfl (fun K hK => ?_) (AllReadyH.nil)
          rw [if_pos (by rfl)]
          go_simp
          go_at_call 7
          refine (toFile_L f0 p0 _ (HF0_12.out.below (hHeld.2.2)) HP0.out HSZp0.out).mono ?_
          rintro e wa ⟨twa, rfl, hpwa, howa, hbwa⟩
          have RF := Lib.hid howa.rd
          have RFP := Lib.hid hpwa
          have hQwa : Below w12.heap.size w12 wa := Below.next hHeld.2.2 hbwa
          have hzwa := hbwa.size
          (try simp only [World.size_alloc, World.size_drew] at hzwa)
          have hywa := hQwa.size
          (try simp only [World.size_alloc, World.size_drew] at hywa)
          have hbk := hbk.next hbwa
          refine hK.out _ _ ?_ (fun hHeld2 => ?_)
          · (try dsimp only); exact SB.mk hQwa
          clear hK K hHeld; have hHeld := hHeld2; clear hHeld2; (try simp only [Act.put, List.setIfInBounds_toArray, List.set_cons_zero, List.set_cons_succ])
          refine wpAnyH_ready (rs := [3]) (by kernel_rfl) (by simp) ?_
          refine AllReadyH.cons rfl (fun K hK => ?_) (AllReadyH.nil)
          rw [if_pos (by rfl)]
          go_simp
          go_at_call 8
          refine (toNote_any n _).mono ?_
          rintro e wb ⟨rfl, hbwb⟩
          have RF := Lib.hid (RF.out.below (hbwb))
          have hQwb : Below w12.heap.size w12 wb := Below.next hHeld.2.2 hbwb
          have hzwb := hbwb.size
          (try simp only [World.size_alloc, World.size_drew] at hzwb)
          have hywb := hQwb.size
          (try simp only [World.size_alloc, World.size_drew] at hywb)
          have hbk := hbk.next hbwb
          refine hK.out _ _ ?_ (fun hHeld2 => ?_)
          · (try dsimp only); exact SB.mk hQwb
          clear hK K hHeld; have hHeld := hHeld2; clear hHeld2; (try simp only [Act.put, List.setIfInBounds_toArray, List.set_cons_zero, List.set_cons_succ])
          refine wpAnyH_ready (rs := [4]) (by kernel_rfl) (by simp) ?_
          refine AllReadyH.cons rfl (fun K hK => ?_) (AllReadyH.nil)
          rw [if_pos (by rfl)]
          go_simp
          have lbb := hbk.lt
          go_at_call 9
          refine (iAddNote_L twa p0 q n v code _ RF.out RFP.out HSZp0.out HTXp0.out hx HV HCR.out).mono ?_
          rintro e wd ⟨fwd, rfl, hpwd, howd, hbwd⟩
          have hQwd : Below w12.heap.size w12 wd := Below.next hHeld.2.2 hbwd
          have hzwd := hbwd.size
          (try simp only [World.size_alloc, World.size_drew] at hzwd)
          have hywd := hQwd.size
          (try simp only [World.size_alloc, World.size_drew] at hywd)
          have hbk := hbk.next hbwd
          refine hK.out _ _ ?_ (fun hHeld2 => ?_)
          · (try dsimp only); exact SB.mk hQwd
          clear hK K hHeld; have hHeld := hHeld2; clear hHeld2; (try simp only [Act.put, List.setIfInBounds_toArray, List.set_cons_zero, List.set_cons_succ])
          first | (refine take_on (i := 5) (v := ?_) rfl (by kernel_rfl) (by kernel_rfl) (by kernel_rfl) (fun _ _ _ h => h) rfl ?_ (by assumption) ?_; rotate_left; · (intro w' hSw; (try dsimp only at hSw); go_simp; (try with_reducible rfl))) | (refine take_off (i := 5) rfl (by kernel_rfl) (by kernel_rfl) (by kernel_rfl) (fun _ _ _ h => h) rfl (by assumption) ?_)
          (try simp only [Act.put, List.setIfInBounds_toArray, List.set_cons_zero, List.set_cons_succ])
          first | (refine take_on (i := 6) (v := ?_) rfl (by kernel_rfl) (by kernel_rfl) (by kernel_rfl) (fun _ _ _ h => h) rfl ?_ (by assumption) ?_; rotate_left; · (intro w' hSw; (try dsimp only at hSw); go_simp; (try with_reducible rfl))) | (refine take_off (i := 6) rfl (by kernel_rfl) (by kernel_rfl) (by kernel_rfl) (fun _ _ _ h => h) rfl (by assumption) ?_)
          (try simp only [Act.put, List.setIfInBounds_toArray, List.set_cons_zero, List.set_cons_succ])
          first | (refine take_on (i := 7) (v := ?_) rfl (by kernel_rfl) (by kernel_rfl) (by kernel_rfl) (fun _ _ _ h => h) rfl ?_ (by assumption) ?_; rotate_left; · (intro w' hSw; (try dsimp only at hSw); go_simp; (try with_reducible rfl))) | (refine take_off (i := 7) rfl (by kernel_rfl) (by kernel_rfl) (by kernel_rfl) (fun _ _ _ h => h) rfl (by assumption) ?_)
          (try simp only [Act.put, List.setIfInBounds_toArray, List.set_cons_zero, List.set_cons_succ])
          have ebk0 := hbk.cell 0
          have ebk1 := hbk.cell 1
          have ebk2 := hbk.cell 2
          have fbk0 := hbk.frozen 0
          have fbk1 := hbk.frozen 1
          have fbk2 := hbk.frozen 2
          have lbk := hbk.lt
          refine wpAnyH_ready (rs := [9]) (by kernel_rfl) (by simp) ?_
          refine AllReadyH.cons rfl (fun K hK => ?_) AllReadyH.nil
          rw [if_pos (by rfl)]
          go_simp
          refine hK.out _ _ ?_ (fun hHeld2 => ?_)
          · (try dsimp only); exact SB.mk (((hQwd.setCell (by (try simp only [World.size_alloc]); omega) _).setCell (by (try simp only [World.size_alloc]); omega) _).setCell (by (try simp only [World.size_alloc]); omega) _)
          clear hK K hHeld; have hHeld := hHeld2; clear hHeld2; (try simp only [Act.put, List.setIfInBounds_toArray, List.set_cons_zero, List.set_cons_succ])
          first | (refine take_on (i := 10) (v := ?_) rfl (by kernel_rfl) (by kernel_rfl) (by kernel_rfl) (fun _ _ _ h => h) rfl ?_ (by assumption) ?_; rotate_left; · (intro w' hSw; (try dsimp only at hSw); go_simp; (try with_reducible rfl))) | (refine take_off (i := 10) rfl (by kernel_rfl) (by kernel_rfl) (by kernel_rfl) (fun _ _ _ h => h) rfl (by assumption) ?_)
          (try simp only [Act.put, List.setIfInBounds_toArray, List.set_cons_zero, List.set_cons_succ])
          refine wpAnyH_done (by kernel_rfl) ?_ _
          have hF := hHeld.2.2
          clear hHeld
          go_wp2_with fail
          go_meet
          have hblo : _ < _ := lbb
          have hk3 := ((hbk.put 0 (.slice fwd.ch.A fwd.ch.l.length fwd.ch.c)).put 1 (.slice fwd.st.A fwd.st.l.length fwd.st.c)).put 2 (.slice fwd.no.A fwd.no.l.length fwd.no.c)
          have ho3 := ((howd.set (o := 0) (u := .slice fwd.ch.A fwd.ch.l.length fwd.ch.c) hblo).set (o := 1) (u := .slice fwd.st.A fwd.st.l.length fwd.st.c) hblo).set (o := 2) (u := .slice fwd.no.A fwd.no.l.length fwd.no.c) hblo
          refine ⟨_, fwd, _, _, rfl, rfl, hk3.cell 0, hk3.cell 1, hk3.cell 2, hk3.lt, hpwd, ho3, .inl hblo, ?_, ?_, ?_, by omega, hF⟩
          all_goals (try simp only [World.size_alloc, World.size_drew, World.setCell, Array.size_modify])
          all_goals omega
      case rest =>
        obtain ⟨w13, rfl⟩ : ∃ x, x = wc := ⟨wc, rfl⟩
        obtain ⟨b13, fr13, lo13, hi13, rfl, rfl, hca13, hcb13, hcc13, hbl13, hp13, ho13, hbd13, hlh13, hlo13, hhi13, hbg13, hb13⟩ := hcut
        have hB13 : Below w12.heap.size w12 w13 := Below.next (by go_grown) hb13
        have hT13 : Below w.heap.size w w13 := Below.next hT12 hB13
        have hz13 := hb13.size
        (try simp only [World.size_alloc, World.size_drew] at hz13)
        have bx0_l13 : w.heap.size < w13.heap.size := Nat.lt_of_lt_of_le bx0_l12 hB13.size
        have bx0_0_13 : w13.cell? ⟨w.heap.size, 0, none⟩ = some (.slice f0.ch.A f0.ch.l.length f0.ch.c) := (hB13.cell (p := ⟨w.heap.size, 0, none⟩) bx0_l12).trans bx0_0_12
        have bx0_1_13 : w13.cell? ⟨w.heap.size, 1, none⟩ = some (.slice f0.st.A f0.st.l.length f0.st.c) := (hB13.cell (p := ⟨w.heap.size, 1, none⟩) bx0_l12).trans bx0_1_12
        have bx0_2_13 : w13.cell? ⟨w.heap.size, 2, none⟩ = some (.slice f0.no.A f0.no.l.length f0.no.c) := (hB13.cell (p := ⟨w.heap.size, 2, none⟩) bx0_l12).trans bx0_2_12
        have bn_l13 : w.heap.size + 1 < w13.heap.size := Nat.lt_of_lt_of_le bn_l12 hB13.size
        have bn_0_13 : w13.cell? ⟨w.heap.size + 1, 0, none⟩ = some (.int .i64 n.fr) := (hB13.cell (p := ⟨w.heap.size + 1, 0, none⟩) bn_l12).trans bn_0_12
        have bn_1_13 : w13.cell? ⟨w.heap.size + 1, 1, none⟩ = some (.int .i64 n.til) := (hB13.cell (p := ⟨w.heap.size + 1, 1, none⟩) bn_l12).trans bn_1_12
        have bn_2_13 : w13.cell? ⟨w.heap.size + 1, 2, none⟩ = some (.string n.text) := (hB13.cell (p := ⟨w.heap.size + 1, 2, none⟩) bn_l12).trans bn_2_12
        have bW0_l13 : b3 < w13.heap.size := Nat.lt_of_lt_of_le bW0_l12 hB13.size
        have bW0_0_13 : w13.cell? ⟨b3, 0, none⟩ = some (.slice fr3.ch.A fr3.ch.l.length fr3.ch.c) := (hB13.cell (p := ⟨b3, 0, none⟩) bW0_l12).trans bW0_0_12
        have bW0_1_13 : w13.cell? ⟨b3, 1, none⟩ = some (.slice fr3.st.A fr3.st.l.length fr3.st.c) := (hB13.cell (p := ⟨b3, 1, none⟩) bW0_l12).trans bW0_1_12
        have bW0_2_13 : w13.cell? ⟨b3, 2, none⟩ = some (.slice fr3.no.A fr3.no.l.length fr3.no.c) := (hB13.cell (p := ⟨b3, 2, none⟩) bW0_l12).trans bW0_2_12
        have bG0_l13 : b5 < w13.heap.size := Nat.lt_of_lt_of_le bG0_l12 hB13.size
        have bG0_0_13 : w13.cell? ⟨b5, 0, none⟩ = some (.slice fr5.ch.A fr5.ch.l.length fr5.ch.c) := (hB13.cell (p := ⟨b5, 0, none⟩) bG0_l12).trans bG0_0_12
        have bG0_1_13 : w13.cell? ⟨b5, 1, none⟩ = some (.slice fr5.st.A fr5.st.l.length fr5.st.c) := (hB13.cell (p := ⟨b5, 1, none⟩) bG0_l12).trans bG0_1_12
        have bG0_2_13 : w13.cell? ⟨b5, 2, none⟩ = some (.slice fr5.no.A fr5.no.l.length fr5.no.c) := (hB13.cell (p := ⟨b5, 2, none⟩) bG0_l12).trans bG0_2_12
        clear bx0_l12 bx0_0_12 bx0_1_12 bx0_2_12 bn_l12 bn_0_12 bn_1_12 bn_2_12 bW0_l12 bW0_0_12 bW0_1_12 bW0_2_12 bG0_l12 bG0_0_12 bG0_1_12 bG0_2_12
        have HF0_13 := Lib.hid (HF0_0.out.below hT13)
        clear HF0_12
        have W0_13 := Lib.hid (W0_12.out.next hB13)
        have G0_13 := Lib.hid (G0_12.out.next hB13)
        clear W0_12 G0_12
        have H0_13 := ho13
        clear ho13
        have H0_p := hp13
        clear hp13
        have bH0_l13 := hbl13
        have bH0_0_13 := hca13
        have bH0_1_13 := hcb13
        have bH0_2_13 := hcc13
        go_wp2_with fail
        refine (eqFile_L fr13 fr3 q _ (by first | exact H0_13.out.rd | exact H0_13.out.rd.alloc _ | exact (H0_13.out.rd.alloc _).alloc _ | exact ((H0_13.out.rd.alloc _).alloc _).alloc _ | exact (((H0_13.out.rd.alloc _).alloc _).alloc _).alloc _ | exact H0_13.out.rd.drew | exact (H0_13.out.rd.drew).alloc _) (by first | exact W0_13.out.rd | exact W0_13.out.rd.alloc _ | exact (W0_13.out.rd.alloc _).alloc _ | exact ((W0_13.out.rd.alloc _).alloc _).alloc _ | exact (((W0_13.out.rd.alloc _).alloc _).alloc _).alloc _ | exact W0_13.out.rd.drew | exact (W0_13.out.rd.drew).alloc _) H0_p.out W0_p.out HSZq.out).mono ?_
        rintro e w14 ⟨rfl, hb14⟩
        have hB14 : Below w13.heap.size w13 w14 := Below.next (by go_grown) hb14
        have hT14 : Below w.heap.size w w14 := Below.next hT13 hB14
        have hz14 := hb14.size
        (try simp only [World.size_alloc, World.size_drew] at hz14)
        have bx0_l14 : w.heap.size < w14.heap.size := Nat.lt_of_lt_of_le bx0_l13 hB14.size
        have bx0_0_14 : w14.cell? ⟨w.heap.size, 0, none⟩ = some (.slice f0.ch.A f0.ch.l.length f0.ch.c) := (hB14.cell (p := ⟨w.heap.size, 0, none⟩) bx0_l13).trans bx0_0_13
        have bx0_1_14 : w14.cell? ⟨w.heap.size, 1, none⟩ = some (.slice f0.st.A f0.st.l.length f0.st.c) := (hB14.cell (p := ⟨w.heap.size, 1, none⟩) bx0_l13).trans bx0_1_13
        have bx0_2_14 : w14.cell? ⟨w.heap.size, 2, none⟩ = some (.slice f0.no.A f0.no.l.length f0.no.c) := (hB14.cell (p := ⟨w.heap.size, 2, none⟩) bx0_l13).trans bx0_2_13
        have bn_l14 : w.heap.size + 1 < w14.heap.size := Nat.lt_of_lt_of_le bn_l13 hB14.size
        have bn_0_14 : w14.cell? ⟨w.heap.size + 1, 0, none⟩ = some (.int .i64 n.fr) := (hB14.cell (p := ⟨w.heap.size + 1, 0, none⟩) bn_l13).trans bn_0_13
        have bn_1_14 : w14.cell? ⟨w.heap.size + 1, 1, none⟩ = some (.int .i64 n.til) := (hB14.cell (p := ⟨w.heap.size + 1, 1, none⟩) bn_l13).trans bn_1_13
        have bn_2_14 : w14.cell? ⟨w.heap.size + 1, 2, none⟩ = some (.string n.text) := (hB14.cell (p := ⟨w.heap.size + 1, 2, none⟩) bn_l13).trans bn_2_13
        have bW0_l14 : b3 < w14.heap.size := Nat.lt_of_lt_of_le bW0_l13 hB14.size
        have bW0_0_14 : w14.cell? ⟨b3, 0, none⟩ = some (.slice fr3.ch.A fr3.ch.l.length fr3.ch.c) := (hB14.cell (p := ⟨b3, 0, none⟩) bW0_l13).trans bW0_0_13
        have bW0_1_14 : w14.cell? ⟨b3, 1, none⟩ = some (.slice fr3.st.A fr3.st.l.length fr3.st.c) := (hB14.cell (p := ⟨b3, 1, none⟩) bW0_l13).trans bW0_1_13
        have bW0_2_14 : w14.cell? ⟨b3, 2, none⟩ = some (.slice fr3.no.A fr3.no.l.length fr3.no.c) := (hB14.cell (p := ⟨b3, 2, none⟩) bW0_l13).trans bW0_2_13
        have bG0_l14 : b5 < w14.heap.size := Nat.lt_of_lt_of_le bG0_l13 hB14.size
        have bG0_0_14 : w14.cell? ⟨b5, 0, none⟩ = some (.slice fr5.ch.A fr5.ch.l.length fr5.ch.c) := (hB14.cell (p := ⟨b5, 0, none⟩) bG0_l13).trans bG0_0_13
        have bG0_1_14 : w14.cell? ⟨b5, 1, none⟩ = some (.slice fr5.st.A fr5.st.l.length fr5.st.c) := (hB14.cell (p := ⟨b5, 1, none⟩) bG0_l13).trans bG0_1_13
        have bG0_2_14 : w14.cell? ⟨b5, 2, none⟩ = some (.slice fr5.no.A fr5.no.l.length fr5.no.c) := (hB14.cell (p := ⟨b5, 2, none⟩) bG0_l13).trans bG0_2_13
        have bH0_l14 : b13 < w14.heap.size := Nat.lt_of_lt_of_le bH0_l13 hB14.size
        have bH0_0_14 : w14.cell? ⟨b13, 0, none⟩ = some (.slice fr13.ch.A fr13.ch.l.length fr13.ch.c) := (hB14.cell (p := ⟨b13, 0, none⟩) bH0_l13).trans bH0_0_13
        have bH0_1_14 : w14.cell? ⟨b13, 1, none⟩ = some (.slice fr13.st.A fr13.st.l.length fr13.st.c) := (hB14.cell (p := ⟨b13, 1, none⟩) bH0_l13).trans bH0_1_13
        have bH0_2_14 : w14.cell? ⟨b13, 2, none⟩ = some (.slice fr13.no.A fr13.no.l.length fr13.no.c) := (hB14.cell (p := ⟨b13, 2, none⟩) bH0_l13).trans bH0_2_13
        clear bx0_l13 bx0_0_13 bx0_1_13 bx0_2_13 bn_l13 bn_0_13 bn_1_13 bn_2_13 bW0_l13 bW0_0_13 bW0_1_13 bW0_2_13 bG0_l13 bG0_0_13 bG0_1_13 bG0_2_13 bH0_l13 bH0_0_13 bH0_1_13 bH0_2_13
        have HF0_14 := Lib.hid (HF0_0.out.below hT14)
        clear HF0_13
        have W0_14 := Lib.hid (W0_13.out.next hB14)
        have G0_14 := Lib.hid (G0_13.out.next hB14)
        have H0_14 := Lib.hid (H0_13.out.next hB14)
        clear W0_13 G0_13 H0_13
        go_wp2_with fail
        refine (heldFile_L fr5 q mmq _ (by first | exact G0_14.out.rd | exact G0_14.out.rd.alloc _ | exact (G0_14.out.rd.alloc _).alloc _ | exact ((G0_14.out.rd.alloc _).alloc _).alloc _ | exact (((G0_14.out.rd.alloc _).alloc _).alloc _).alloc _ | exact G0_14.out.rd.drew | exact (G0_14.out.rd.drew).alloc _) G0_p.out HSZq.out HMMq.out).mono ?_
        rintro e w15 ⟨rfl, hb15⟩
        have hB15 : Below w14.heap.size w14 w15 := Below.next (by go_grown) hb15
        have hT15 : Below w.heap.size w w15 := Below.next hT14 hB15
        have hz15 := hb15.size
        (try simp only [World.size_alloc, World.size_drew] at hz15)
        have bx0_l15 : w.heap.size < w15.heap.size := Nat.lt_of_lt_of_le bx0_l14 hB15.size
        have bx0_0_15 : w15.cell? ⟨w.heap.size, 0, none⟩ = some (.slice f0.ch.A f0.ch.l.length f0.ch.c) := (hB15.cell (p := ⟨w.heap.size, 0, none⟩) bx0_l14).trans bx0_0_14
        have bx0_1_15 : w15.cell? ⟨w.heap.size, 1, none⟩ = some (.slice f0.st.A f0.st.l.length f0.st.c) := (hB15.cell (p := ⟨w.heap.size, 1, none⟩) bx0_l14).trans bx0_1_14
        have bx0_2_15 : w15.cell? ⟨w.heap.size, 2, none⟩ = some (.slice f0.no.A f0.no.l.length f0.no.c) := (hB15.cell (p := ⟨w.heap.size, 2, none⟩) bx0_l14).trans bx0_2_14
        have bn_l15 : w.heap.size + 1 < w15.heap.size := Nat.lt_of_lt_of_le bn_l14 hB15.size
        have bn_0_15 : w15.cell? ⟨w.heap.size + 1, 0, none⟩ = some (.int .i64 n.fr) := (hB15.cell (p := ⟨w.heap.size + 1, 0, none⟩) bn_l14).trans bn_0_14
        have bn_1_15 : w15.cell? ⟨w.heap.size + 1, 1, none⟩ = some (.int .i64 n.til) := (hB15.cell (p := ⟨w.heap.size + 1, 1, none⟩) bn_l14).trans bn_1_14
        have bn_2_15 : w15.cell? ⟨w.heap.size + 1, 2, none⟩ = some (.string n.text) := (hB15.cell (p := ⟨w.heap.size + 1, 2, none⟩) bn_l14).trans bn_2_14
        have bW0_l15 : b3 < w15.heap.size := Nat.lt_of_lt_of_le bW0_l14 hB15.size
        have bW0_0_15 : w15.cell? ⟨b3, 0, none⟩ = some (.slice fr3.ch.A fr3.ch.l.length fr3.ch.c) := (hB15.cell (p := ⟨b3, 0, none⟩) bW0_l14).trans bW0_0_14
        have bW0_1_15 : w15.cell? ⟨b3, 1, none⟩ = some (.slice fr3.st.A fr3.st.l.length fr3.st.c) := (hB15.cell (p := ⟨b3, 1, none⟩) bW0_l14).trans bW0_1_14
        have bW0_2_15 : w15.cell? ⟨b3, 2, none⟩ = some (.slice fr3.no.A fr3.no.l.length fr3.no.c) := (hB15.cell (p := ⟨b3, 2, none⟩) bW0_l14).trans bW0_2_14
        have bG0_l15 : b5 < w15.heap.size := Nat.lt_of_lt_of_le bG0_l14 hB15.size
        have bG0_0_15 : w15.cell? ⟨b5, 0, none⟩ = some (.slice fr5.ch.A fr5.ch.l.length fr5.ch.c) := (hB15.cell (p := ⟨b5, 0, none⟩) bG0_l14).trans bG0_0_14
        have bG0_1_15 : w15.cell? ⟨b5, 1, none⟩ = some (.slice fr5.st.A fr5.st.l.length fr5.st.c) := (hB15.cell (p := ⟨b5, 1, none⟩) bG0_l14).trans bG0_1_14
        have bG0_2_15 : w15.cell? ⟨b5, 2, none⟩ = some (.slice fr5.no.A fr5.no.l.length fr5.no.c) := (hB15.cell (p := ⟨b5, 2, none⟩) bG0_l14).trans bG0_2_14
        have bH0_l15 : b13 < w15.heap.size := Nat.lt_of_lt_of_le bH0_l14 hB15.size
        have bH0_0_15 : w15.cell? ⟨b13, 0, none⟩ = some (.slice fr13.ch.A fr13.ch.l.length fr13.ch.c) := (hB15.cell (p := ⟨b13, 0, none⟩) bH0_l14).trans bH0_0_14
        have bH0_1_15 : w15.cell? ⟨b13, 1, none⟩ = some (.slice fr13.st.A fr13.st.l.length fr13.st.c) := (hB15.cell (p := ⟨b13, 1, none⟩) bH0_l14).trans bH0_1_14
        have bH0_2_15 : w15.cell? ⟨b13, 2, none⟩ = some (.slice fr13.no.A fr13.no.l.length fr13.no.c) := (hB15.cell (p := ⟨b13, 2, none⟩) bH0_l14).trans bH0_2_14
        clear bx0_l14 bx0_0_14 bx0_1_14 bx0_2_14 bn_l14 bn_0_14 bn_1_14 bn_2_14 bW0_l14 bW0_0_14 bW0_1_14 bW0_2_14 bG0_l14 bG0_0_14 bG0_1_14 bG0_2_14 bH0_l14 bH0_0_14 bH0_1_14 bH0_2_14
        have HF0_15 := Lib.hid (HF0_0.out.below hT15)
        clear HF0_14
        have W0_15 := Lib.hid (W0_14.out.next hB15)
        have G0_15 := Lib.hid (G0_14.out.next hB15)
        have H0_15 := Lib.hid (H0_14.out.next hB15)
        clear W0_14 G0_14 H0_14
        go_wp2_with fail
        go_ret
        exact ⟨rfl, by go_grown⟩

theorem law_AddNote {w : World} (f0 : Fl) (hg0 : FileGood w f0) (x y : Int) (s : ByteArray) (hs : s.size ≤ maxLen) (_ : World) :
    Calls Try.prog 3 #[.agg #[.slice f0.ch.A f0.ch.l.length f0.ch.c, .slice f0.st.A f0.st.l.length f0.st.c, .slice f0.no.A f0.no.l.length f0.no.c], .agg #[.int .i64 x, .int .i64 y, .string s]] w (Yes w) :=
  AddNote_walk f0 hg0 ⟨x, y, s⟩ (by unfold maxLen at hs; exact hs)
end Go.Proofs.Ytmdmjnhebbhjbaa
