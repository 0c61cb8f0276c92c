/-
  A file under way: its variable, what it holds, what stays. The program reads a line of a file: a channel, a note. The program reads a line of a file: a stroke. The program reads a line of a file, whatever it is.
-/
import Derived.Test.YtmdmjnhebbhjbaaGreatDoorFlPush
import Derived.Test.YtmdmjnhebbhjbaaGreatDoorRdInkP
import Derived.Test.YtmdmjnhebbhjbaaGreatDoorFTxIL
namespace Go.Proofs.YtmdmjnhebbhjbaaGreatDoor
set_option linter.unusedSimpArgs false
set_option linter.unusedVariables false
set_option maxRecDepth 20000
open Go.RowKit
open Go.ChangeShapes Go.WideShapes Go.Deep Go.Joins

/-- the file that block bF's variable holds; its own blocks lie from base to hi -/
structure FA (w : World) (bF base hi : Nat) (f : Fl) : Prop where
  bk : Bk w bF 26 #[.slice f.ch.A f.ch.l.length f.ch.c, .slice f.st.A f.st.l.length f.st.c, .slice f.no.A f.no.l.length f.no.c]
  mine : FileMine w base hi f
  lt : bF < base
  lo : base ≤ hi
  top : hi ≤ w.heap.size
theorem FA.next {w w' : World} {bF base hi : Nat} {f : Fl} (h : FA w bF base hi f) (hb : Below w.heap.size w w') : FA w' bF base hi f := ⟨h.bk.next hb, h.mine.next hb, h.lt, h.lo, Nat.le_trans h.top hb.size⟩
def FaPost (bF base : Nat) (q : FlP) (w : World) (e : Ending) (w' : World) : Prop := ∃ f', e = .returned (.bool true) ∧ filePl f' = q ∧ FA w' bF base w'.heap.size f' ∧ Apart bF base w w'
theorem RdT.get {w : World} {g n : Nat} {L : List ByteArray} (h : RdT w (some ⟨g, 0, none⟩) n L) (hn : L.length = n) {j : Nat} (hj : j < L.length) : w.cell? ⟨g, j, none⟩ = some (.string L[j]) := by
  have h' : Rd w (some ⟨g, 0, none⟩) n 1 (rowOf sC L) := h
  obtain ⟨b, o, e, _, hc⟩ := h'.at sC_len hn hj
  injection e with e
  injection e with e1 e2
  subst e1; subst e2
  simpa using hc 0 _ rfl
theorem S5.storeo {W0 w : World} {v : Value} {B base : Nat} (o : Nat) (h : (∀ kb ko, kb < W0.heap.size → ¬ v.ownBlock = some kb → ¬ kb = B → w.cell? ⟨kb, ko, none⟩ = W0.cell? ⟨kb, ko, none⟩) ∧ W0.heap.size ≤ w.heap.size ∧ Apart B base W0 w) (u : Value) :
    (∀ kb ko, kb < W0.heap.size → ¬ v.ownBlock = some kb → ¬ kb = B → (w.setCell ⟨B, o, none⟩ u).cell? ⟨kb, ko, none⟩ = W0.cell? ⟨kb, ko, none⟩) ∧ W0.heap.size ≤ (w.setCell ⟨B, o, none⟩ u).heap.size ∧ Apart B base W0 (w.setCell ⟨B, o, none⟩ u) := by
  have h0 : Below 0 w (w.setCell ⟨B, o, none⟩ u) := (Below.refl 0 w).setCell (Nat.zero_le _) u
  exact ⟨fun kb ko h1 h2 h3 => (World.cell?_of_block (Below.heap_setCell w ⟨B, o, none⟩ u kb h3)).trans (h.1 kb ko h1 h2 h3), by simpa [World.setCell] using h.2.1, h.2.2.trans ⟨h0.os, h0.tape, h0.output, h0.size, fun k _ hn => Below.heap_setCell w ⟨B, o, none⟩ u k hn⟩⟩
theorem Mine.of_own {α : Type} {f : α → List Value} {size : Nat} {E T : TypeId} {w : World} {lo n : Nat} {A : Option Addr} {c : Nat} {l : List α} (h : Own f E size w lo (.slice A n c) l) (hn : l.length = n) : Mine ((Kd.flat f size E).sl T) w lo w.heap.size ⟨A, c, l⟩ := by
  subst hn
  have z : ∀ L : List α, L.flatMap (fun _ => ([] : List Nat)) = [] := fun L => by simp
  have hfp : ((Kd.flat f size E).sl T).fp ⟨A, c, l⟩ = (Value.slice A l.length c).ownBlock.toList := by
    show (Value.slice A l.length c).ownBlock.toList ++ l.flatMap (fun _ => []) = _
    rw [z, List.append_nil]
  refine ⟨⟨h.mono (Nat.zero_le _), fun a _ => trivial⟩, ?_, fun b hb => ?_⟩
  · rw [hfp]
    cases (Value.slice A l.length c).ownBlock <;> simp
  · rw [hfp] at hb
    exact h.lt b (by simpa using hb)
theorem rows_push {R : Sl (Sl Int)} {T : List (List UInt8)} {j : Nat} (hj : j < T.length) (h : rowsK.pl R = (T.take j).map numsD) {y : Sl Int} (hy : y.l = numsD T[j]) {A : Option Addr} {c : Nat} : rowsK.pl ⟨A, c, R.l ++ [y]⟩ = (T.take (j + 1)).map numsD := by
  have h1 : rowsK.pl ⟨A, c, R.l ++ [y]⟩ = rowsK.pl R ++ [numsD T[j]] := by
    show (R.l ++ [_]).map rowK.pl = R.l.map rowK.pl ++ [_]
    rw [List.map_append, List.map_singleton, rowK_pl, hy]
  rw [h1, h, List.take_succ_eq_append_getElem hj, List.map_append]
  rfl
end Go.Proofs.YtmdmjnhebbhjbaaGreatDoor
namespace Go.Proofs.YtmdmjnhebbhjbaaGreatDoor
set_option linter.unusedSimpArgs false
set_option linter.unusedVariables false
set_option maxRecDepth 20000
open Go.RowKit
open Go.ChangeShapes Go.WideShapes Go.Deep Go.Joins

set_option maxHeartbeats 4000000 in
theorem rfl_ch (bF base hi : Nat) (A1 A2 A3 : Option Addr) (c1 c2 c3 : Nat) (cs : List Ch) (ss : List (Sl (Sl Int))) (ns : List No) (p : FlP) (gw : Nat) (w : World) (hfa : FA w bF base hi ⟨⟨A1, c1, cs⟩, ⟨A2, c2, ss⟩, ⟨A3, c3, ns⟩⟩) (hp : filePl ⟨⟨A1, c1, cs⟩, ⟨A2, c2, ss⟩, ⟨A3, c3, ns⟩⟩ = p) (hgw : hi ≤ gw) (hgl : gw < w.heap.size) (hcnt : cs.length ≤ 1048576 ∧ ss.length ≤ 1048576 ∧ ns.length ≤ 1048576) (x0 x1 x2 x3 x4 : ByteArray) (hrd : RdT w (some ⟨gw, 0, none⟩) 5 [x0, x1, x2, x3, x4]) (hxx3 : x3.size ≤ 1048576) (hxx4 : x4.size ≤ 1048576) (e1 : (x0.toList == [99, 104, 97, 110, 110, 101, 108]) = true) (e2 : (x0.toList == [115, 116, 114, 111, 107, 101]) = false) (hm : MaxIs w) (ht : Tab10 w) (he : ErrIs w) :
    Calls Tryz.prog 20 #[.pointer (some ⟨bF, 0, none⟩), .slice (some ⟨gw, 0, none⟩) 5 5] w (FaPost bF base (addCh p ⟨x1, x2, (decR x3.data.toList).1, (decR x4.data.toList).1⟩) w) := by
  obtain ⟨hbk, hmi, hlt, hlo, htop⟩ := hfa
  obtain ⟨k1, k2, k3⟩ := hcnt
  obtain ⟨n1, hn1⟩ : ∃ n, cs.length = n := ⟨_, rfl⟩
  obtain ⟨n2, hn2⟩ : ∃ n, ss.length = n := ⟨_, rfl⟩
  obtain ⟨n3, hn3⟩ : ∃ n, ns.length = n := ⟨_, rfl⟩
  have hbk' : Bk w bF 26 #[.slice A1 n1 c1, .slice A2 n2 c2, .slice A3 n3 c3] := by rw [← hn1, ← hn2, ← hn3]; exact hbk
  have HBK := Lib.hid hbk'
  have HMI := Lib.hid hmi
  have HP := Lib.hid hp
  have HN1 := Lib.hid hn1
  have HN2 := Lib.hid hn2
  have HN3 := Lib.hid hn3
  rw [hn1] at k1
  rw [hn2] at k2
  rw [hn3] at k3
  have hbl : bF < w.heap.size := hbk'.lt
  have hbg : ¬ gw = bF := by omega
  clear hbk hbk' hmi hp hn1 hn2 hn3
  have HT := Lib.hid ht
  have HE := Lib.hid he
  have y0 : w.cell? ⟨gw, 0, none⟩ = some (.string x0) := hrd.get rfl (j := 0) (by simp)
  have Y0 := Lib.hid y0
  have y1 : w.cell? ⟨gw, 1, none⟩ = some (.string x1) := hrd.get rfl (j := 1) (by simp)
  have Y1 := Lib.hid y1
  have y2 : w.cell? ⟨gw, 2, none⟩ = some (.string x2) := hrd.get rfl (j := 2) (by simp)
  have Y2 := Lib.hid y2
  have y3 : w.cell? ⟨gw, 3, none⟩ = some (.string x3) := hrd.get rfl (j := 3) (by simp)
  have Y3 := Lib.hid y3
  have y4 : w.cell? ⟨gw, 4, none⟩ = some (.string x4) := hrd.get rfl (j := 4) (by simp)
  have Y4 := Lib.hid y4
  obtain ⟨⟨zx3, bx3⟩, hzx3⟩ : ∃ r, decR x3.data.toList = r := ⟨_, rfl⟩
  have HDx3 := Lib.hid (iReadDecimal_any x3 hxx3)
  rw [hzx3] at HDx3 ⊢
  clear hzx3
  obtain ⟨⟨zx4, bx4⟩, hzx4⟩ : ∃ r, decR x4.data.toList = r := ⟨_, rfl⟩
  have HDx4 := Lib.hid (iReadDecimal_any x4 hxx4)
  rw [hzx4] at HDx4 ⊢
  clear hzx4
  have hBw : Below w.heap.size w w := Below.refl _ _
  clear ht he hrd
  go_enter Tryz.func20, Tryz.ntmps20
  go_wp2_with fail
  refine (HDx3.out _ (HT.out.below hBw) (HE.out.below hBw)).mono ?_
  rintro e w3 ⟨rfl, hbw3⟩
  unfold decV
  have hBw3 : Below w.heap.size w w3 := Below.next hBw hbw3
  clear hbw3
  clear y0 y1 y2 y3 y4
  have y0w3 : w3.cell? ⟨gw, 0, none⟩ = some (.string x0) := (hBw3.cell (p := ⟨gw, 0, none⟩) hgl).trans Y0.out
  have y1w3 : w3.cell? ⟨gw, 1, none⟩ = some (.string x1) := (hBw3.cell (p := ⟨gw, 1, none⟩) hgl).trans Y1.out
  have y2w3 : w3.cell? ⟨gw, 2, none⟩ = some (.string x2) := (hBw3.cell (p := ⟨gw, 2, none⟩) hgl).trans Y2.out
  have y3w3 : w3.cell? ⟨gw, 3, none⟩ = some (.string x3) := (hBw3.cell (p := ⟨gw, 3, none⟩) hgl).trans Y3.out
  have y4w3 : w3.cell? ⟨gw, 4, none⟩ = some (.string x4) := (hBw3.cell (p := ⟨gw, 4, none⟩) hgl).trans Y4.out
  have hgl3 : gw < w3.heap.size := Nat.lt_of_lt_of_le hgl hBw3.size
  go_wp2_with fail
  refine (HDx4.out _ (HT.out.below hBw3) (HE.out.below hBw3)).mono ?_
  rintro e w4 ⟨rfl, hbw4⟩
  unfold decV
  have hBw4 : Below w.heap.size w w4 := Below.next hBw3 hbw4
  clear hbw4
  clear y0w3 y1w3 y2w3 y3w3 y4w3
  have y0w4 : w4.cell? ⟨gw, 0, none⟩ = some (.string x0) := (hBw4.cell (p := ⟨gw, 0, none⟩) hgl).trans Y0.out
  have y1w4 : w4.cell? ⟨gw, 1, none⟩ = some (.string x1) := (hBw4.cell (p := ⟨gw, 1, none⟩) hgl).trans Y1.out
  have y2w4 : w4.cell? ⟨gw, 2, none⟩ = some (.string x2) := (hBw4.cell (p := ⟨gw, 2, none⟩) hgl).trans Y2.out
  have y3w4 : w4.cell? ⟨gw, 3, none⟩ = some (.string x3) := (hBw4.cell (p := ⟨gw, 3, none⟩) hgl).trans Y3.out
  have y4w4 : w4.cell? ⟨gw, 4, none⟩ = some (.string x4) := (hBw4.cell (p := ⟨gw, 4, none⟩) hgl).trans Y4.out
  have hgl4 : gw < w4.heap.size := Nat.lt_of_lt_of_le hgl hBw4.size
  have hzw4 := hBw4.size
  have hbkw4 := HBK.out.next hBw4
  have hbl4 := hbkw4.lt
  obtain ⟨v1, hv1⟩ : ∃ v, Value.slice A1 n1 c1 = v := ⟨_, rfl⟩
  have hvv : Value.slice A1 cs.length c1 = v1 := by rw [← hv1, HN1.out]
  have HI : Hid (∀ k, v1.ownBlock = some k → base ≤ k ∧ k < hi) := fun k hk => HMI.out.ch.rng k (Kd.fp_top (s := ⟨A1, c1, cs⟩) (by rw [← hvv] at hk; exact hk))
  have HOW : Hid (Own chC 90 4 w4 0 v1 cs) := by rw [← hvv]; exact (HMI.out.next hBw4).ch.own.1
  have HV := Lib.hid hvv
  have hbkv : Bk w4 bF 26 #[v1, .slice A2 n2 c2, .slice A3 n3 c3] := by rw [← hv1]; exact hbkw4
  have HBV := Lib.hid hbkv
  have cb : w4.cell? ⟨bF, 0, none⟩ = some v1 := hbkv.cell 0
  have fb : w4.frozen? ⟨bF, 0, none⟩ = false := hbkv.frozen 0
  have hu4 : ¬ v1.ownBlock = some gw := fun e => by have h2 := HI.out _ e; omega
  clear hvv hbkv hv1
  go_wp2_with fail
  refine wp_region_held_drew (S := (fun w' => (∀ kb ko, kb < w4.heap.size → ¬ v1.ownBlock = some kb → ¬ kb = bF → w'.cell? ⟨kb, ko, none⟩ = w4.cell? ⟨kb, ko, none⟩) ∧ w4.heap.size ≤ w'.heap.size ∧ Apart bF base w4 w')) (by kernel_rfl) ?_ (fun hHeld => ?_)
  · (try dsimp only); exact S5.mk ((Below.refl _ _).drew) (by omega)
  first | (refine take_on (i := 0) (v := ?_) rfl (by kernel_rfl) (by kernel_rfl) (by kernel_rfl) (fun _ _ _ h => h) rfl ?_ (by assumption) ?_; rotate_left; · (intro w' hSw; (try dsimp only at hSw); go_simp; (try with_reducible rfl))) | (refine take_off (i := 0) rfl (by kernel_rfl) (by kernel_rfl) (by kernel_rfl) (fun _ _ _ h => h) rfl (by assumption) ?_)
  (try simp only [Act.put, List.setIfInBounds_toArray, List.set_cons_zero, List.set_cons_succ])
  first | (refine take_on (i := 1) (v := ?_) rfl (by kernel_rfl) (by kernel_rfl) (by kernel_rfl) (fun _ _ _ h => h) rfl ?_ (by assumption) ?_; rotate_left; · (intro w' hSw; (try dsimp only at hSw); go_simp; (try with_reducible rfl))) | (refine take_off (i := 1) rfl (by kernel_rfl) (by kernel_rfl) (by kernel_rfl) (fun _ _ _ h => h) rfl (by assumption) ?_)
  (try simp only [Act.put, List.setIfInBounds_toArray, List.set_cons_zero, List.set_cons_succ])
  first | (refine take_on (i := 2) (v := ?_) rfl (by kernel_rfl) (by kernel_rfl) (by kernel_rfl) (fun _ _ _ h => h) rfl ?_ (by assumption) ?_; rotate_left; · (intro w' hSw; (try dsimp only at hSw); go_simp; (try with_reducible rfl))) | (refine take_off (i := 2) rfl (by kernel_rfl) (by kernel_rfl) (by kernel_rfl) (fun _ _ _ h => h) rfl (by assumption) ?_)
  (try simp only [Act.put, List.setIfInBounds_toArray, List.set_cons_zero, List.set_cons_succ])
  first | (refine take_on (i := 3) (v := ?_) rfl (by kernel_rfl) (by kernel_rfl) (by kernel_rfl) (fun _ _ _ h => h) rfl ?_ (by assumption) ?_; rotate_left; · (intro w' hSw; (try dsimp only at hSw); go_simp; (try with_reducible rfl))) | (refine take_off (i := 3) rfl (by kernel_rfl) (by kernel_rfl) (by kernel_rfl) (fun _ _ _ h => h) rfl (by assumption) ?_)
  (try simp only [Act.put, List.setIfInBounds_toArray, List.set_cons_zero, List.set_cons_succ])
  first | (refine take_on (i := 5) (v := ?_) rfl (by kernel_rfl) (by kernel_rfl) (by kernel_rfl) (fun _ _ _ h => h) rfl ?_ (by assumption) ?_; rotate_left; · (intro w' hSw; (try dsimp only at hSw); go_simp; (try with_reducible rfl))) | (refine take_off (i := 5) rfl (by kernel_rfl) (by kernel_rfl) (by kernel_rfl) (fun _ _ _ h => h) rfl (by assumption) ?_)
  (try simp only [Act.put, List.setIfInBounds_toArray, List.set_cons_zero, List.set_cons_succ])
  first | (refine take_on (i := 6) (v := ?_) rfl (by kernel_rfl) (by kernel_rfl) (by kernel_rfl) (fun _ _ _ h => h) rfl ?_ (by assumption) ?_; rotate_left; · (intro w' hSw; (try dsimp only at hSw); go_simp; (try with_reducible rfl))) | (refine take_off (i := 6) rfl (by kernel_rfl) (by kernel_rfl) (by kernel_rfl) (fun _ _ _ h => h) rfl (by assumption) ?_)
  (try simp only [Act.put, List.setIfInBounds_toArray, List.set_cons_zero, List.set_cons_succ])
  first | (refine take_on (i := 7) (v := ?_) rfl (by kernel_rfl) (by kernel_rfl) (by kernel_rfl) (fun _ _ _ h => h) rfl ?_ (by assumption) ?_; rotate_left; · (intro w' hSw; (try dsimp only at hSw); go_simp; (try with_reducible rfl))) | (refine take_off (i := 7) rfl (by kernel_rfl) (by kernel_rfl) (by kernel_rfl) (fun _ _ _ h => h) rfl (by assumption) ?_)
  (try simp only [Act.put, List.setIfInBounds_toArray, List.set_cons_zero, List.set_cons_succ])
  first | (refine take_on (i := 8) (v := ?_) rfl (by kernel_rfl) (by kernel_rfl) (by kernel_rfl) (fun _ _ _ h => h) rfl ?_ (by assumption) ?_; rotate_left; · (intro w' hSw; (try dsimp only at hSw); go_simp; (try with_reducible rfl))) | (refine take_off (i := 8) rfl (by kernel_rfl) (by kernel_rfl) (by kernel_rfl) (fun _ _ _ h => h) rfl (by assumption) ?_)
  (try simp only [Act.put, List.setIfInBounds_toArray, List.set_cons_zero, List.set_cons_succ])
  first | (refine take_on (i := 9) (v := ?_) rfl (by kernel_rfl) (by kernel_rfl) (by kernel_rfl) (fun _ _ _ h => h) rfl ?_ (by assumption) ?_; rotate_left; · (intro w' hSw; (try dsimp only at hSw); go_simp; (try with_reducible rfl))) | (refine take_off (i := 9) rfl (by kernel_rfl) (by kernel_rfl) (by kernel_rfl) (fun _ _ _ h => h) rfl (by assumption) ?_)
  (try simp only [Act.put, List.setIfInBounds_toArray, List.set_cons_zero, List.set_cons_succ])
  first | (refine take_on (i := 10) (v := ?_) rfl (by kernel_rfl) (by kernel_rfl) (by kernel_rfl) (fun _ _ _ h => h) rfl ?_ (by assumption) ?_; rotate_left; · (intro w' hSw; (try dsimp only at hSw); go_simp; (try with_reducible rfl))) | (refine take_off (i := 10) rfl (by kernel_rfl) (by kernel_rfl) (by kernel_rfl) (fun _ _ _ h => h) rfl (by assumption) ?_)
  (try simp only [Act.put, List.setIfInBounds_toArray, List.set_cons_zero, List.set_cons_succ])
  first | (refine take_on (i := 11) (v := ?_) rfl (by kernel_rfl) (by kernel_rfl) (by kernel_rfl) (fun _ _ _ h => h) rfl ?_ (by assumption) ?_; rotate_left; · (intro w' hSw; (try dsimp only at hSw); go_simp; (try with_reducible rfl))) | (refine take_off (i := 11) rfl (by kernel_rfl) (by kernel_rfl) (by kernel_rfl) (fun _ _ _ h => h) rfl (by assumption) ?_)
  (try simp only [Act.put, List.setIfInBounds_toArray, List.set_cons_zero, List.set_cons_succ])
  first | (refine take_on (i := 12) (v := ?_) rfl (by kernel_rfl) (by kernel_rfl) (by kernel_rfl) (fun _ _ _ h => h) rfl ?_ (by assumption) ?_; rotate_left; · (intro w' hSw; (try dsimp only at hSw); go_simp; (try with_reducible rfl))) | (refine take_off (i := 12) rfl (by kernel_rfl) (by kernel_rfl) (by kernel_rfl) (fun _ _ _ h => h) rfl (by assumption) ?_)
  (try simp only [Act.put, List.setIfInBounds_toArray, List.set_cons_zero, List.set_cons_succ])
  first | (refine take_on (i := 13) (v := ?_) rfl (by kernel_rfl) (by kernel_rfl) (by kernel_rfl) (fun _ _ _ h => h) rfl ?_ (by assumption) ?_; rotate_left; · (intro w' hSw; (try dsimp only at hSw); go_simp; (try with_reducible rfl))) | (refine take_off (i := 13) rfl (by kernel_rfl) (by kernel_rfl) (by kernel_rfl) (fun _ _ _ h => h) rfl (by assumption) ?_)
  (try simp only [Act.put, List.setIfInBounds_toArray, List.set_cons_zero, List.set_cons_succ])
  refine wpAnyH_ready (rs := [4, 14]) (by kernel_rfl) (by simp) ?_
  refine AllReadyH.cons rfl (fun K hK => ?_) (AllReadyH.cons rfl (fun K hK => ?_) (AllReadyH.nil))
  · rw [if_pos (by rfl)]
    go_simp
    refine hK.out _ _ ?_ (fun hHeld2 => ?_)
    · (try dsimp only); exact hHeld
    clear hK K hHeld; have hHeld := hHeld2; clear hHeld2; (try simp only [Act.put, List.setIfInBounds_toArray, List.set_cons_zero, List.set_cons_succ])
    refine wpAnyH_ready (rs := [14]) (by kernel_rfl) (by simp) ?_
    refine AllReadyH.cons rfl (fun K hK => ?_) AllReadyH.nil
    rw [if_pos (by rfl)]
    go_simp
    refine hK.out _ _ ?_ (fun hHeld2 => ?_)
    · (try dsimp only); exact S5.mk (by go_grown) (by omega)
    clear hK K hHeld; have hHeld := hHeld2; clear hHeld2; (try simp only [Act.put, List.setIfInBounds_toArray, List.set_cons_zero, List.set_cons_succ])
    refine wpAnyH_ready (rs := [15]) (by kernel_rfl) (by simp) ?_
    refine AllReadyH.cons rfl (fun K hK => ?_) AllReadyH.nil
    refine step_push elem_ch (by rfl) (.tmp 44) (.tmp 54) 22 (by rfl) Tryz.underlying22 0 v1 cs (⟨x1, x2, zx3, zx4⟩ : Ch) (by rfl) (HOW.out.alloc _) n1 HN1.out w4.heap.size 1 (by rfl) (fun i u hu => ((Bk.new w4 #[.string x1, .string x2, .int .i64 zx3, .int .i64 zx4] 90).cell i).trans (by simpa [chC] using hu)) (by unfold maxLen; omega) (by omega) (by simp only [World.size_drew, World.size_alloc]; omega) ?_
    intro g5 cap5 w5 hown5 hgrow5 hat5 hlt5 hkeep5
    have hz5 := hgrow5.size
    simp only [World.size_drew, World.size_alloc] at hz5
    have hbk5 : Bk w5 bF 26 #[v1, .slice A2 n2 c2, .slice A3 n3 c3] := (hgrow5.block _ (by simp only [World.size_drew, World.size_alloc]; omega) (fun e => by have h2 := HI.out _ e.symm; omega)).trans (HBV.out.alloc _)
    have e5' := hbk5.cell 0
    have f5 := hbk5.frozen 0
    have hgl5 := hbk5.lt
    refine hK.out _ _ ?_ (fun hHeld2 => ?_)
    · (try dsimp only); exact S5.push hHeld hgrow5 (fun k hk => (HI.out k hk).1) (by simp only [World.size_drew, World.size_alloc]; omega)
    clear hK K hHeld; have hHeld := hHeld2; clear hHeld2; (try simp only [Act.put, List.setIfInBounds_toArray, List.set_cons_zero, List.set_cons_succ])
    first | (refine take_on (i := 16) (v := ?_) rfl (by kernel_rfl) (by kernel_rfl) (by kernel_rfl) (fun _ _ _ h => h) rfl ?_ (by assumption) ?_; rotate_left; · (intro w' hSw; (try dsimp only at hSw); go_simp; (try with_reducible rfl))) | (refine take_off (i := 16) rfl (by kernel_rfl) (by kernel_rfl) (by kernel_rfl) (fun _ _ _ h => h) rfl (by assumption) ?_)
    (try simp only [Act.put, List.setIfInBounds_toArray, List.set_cons_zero, List.set_cons_succ])
    first | (refine take_on (i := 17) (v := ?_) rfl (by kernel_rfl) (by kernel_rfl) (by kernel_rfl) (fun _ _ _ h => h) rfl ?_ (by assumption) ?_; rotate_left; · (intro w' hSw; (try dsimp only at hSw); go_simp; (try with_reducible rfl))) | (refine take_off (i := 17) rfl (by kernel_rfl) (by kernel_rfl) (by kernel_rfl) (fun _ _ _ h => h) rfl (by assumption) ?_)
    (try simp only [Act.put, List.setIfInBounds_toArray, List.set_cons_zero, List.set_cons_succ])
    refine wpAnyH_ready (rs := [18]) (by kernel_rfl) (by simp) ?_
    refine AllReadyH.cons rfl (fun K hK => ?_) AllReadyH.nil
    rw [if_pos (by rfl)]
    go_simp
    refine hK.out _ _ ?_ (fun hHeld2 => ?_)
    · (try dsimp only); exact S5.storeo 0 hHeld _
    clear hK K hHeld; have hHeld := hHeld2; clear hHeld2; (try simp only [Act.put, List.setIfInBounds_toArray, List.set_cons_zero, List.set_cons_succ])
    refine wpAnyH_done (by kernel_rfl) ?_ _
    have hS := hHeld.2.2
    clear hHeld
    go_wp2_with fail
    go_ret
    have hg5 := hgrow5
    rw [← HV.out] at hg5
    have ha5 := hat5
    rw [← HV.out] at ha5
    have hpush := FileMine.pushCh (g := g5) (cap := cap5) (B := 0) (wi := w4) (a := (⟨x1, x2, zx3, zx4⟩ : Ch)) (HMI.out.next hBw4) (by omega) hlo (by go_grown) hg5 ha5 hlt5 (by rw [HN1.out]; exact hown5)
    have hsz : (w5.setCell ⟨bF, 0, none⟩ (.slice (some ⟨g5, 0, none⟩) (n1 + 1) cap5)).heap.size = w5.heap.size := by simp [World.setCell]
    refine ⟨⟨⟨some ⟨g5, 0, none⟩, cap5, cs ++ [(⟨x1, x2, zx3, zx4⟩ : Ch)]⟩, ⟨A2, c2, ss⟩, ⟨A3, c3, ns⟩⟩, rfl, by rw [← HP.out]; rfl, ⟨?_, ?_, hlt, ?_, ?_⟩, ?_⟩
    · have h1 := hbk5.put 0 (.slice (some ⟨g5, 0, none⟩) (n1 + 1) cap5)
      show Bk _ bF 26 #[.slice (some ⟨g5, 0, none⟩) (cs ++ [(⟨x1, x2, zx3, zx4⟩ : Ch)]).length cap5, .slice A2 ss.length c2, .slice A3 ns.length c3]
      rw [List.length_append, HN1.out, HN2.out, HN3.out]
      simpa using h1
    · have h2 := hpush.set (bF := bF) (o := 0) (u := .slice (some ⟨g5, 0, none⟩) (n1 + 1) cap5) hlt
      exact h2.low (Nat.le_refl _) (by rw [hsz]; exact Nat.le_refl _)
    · rw [hsz]; omega
    · rw [hsz]; exact Nat.le_refl _
    · exact (Apart.of_below (hBw4.mono (show base ≤ w.heap.size by omega))).trans hS
  · rw [if_pos (by rfl)]
    go_simp
    refine hK.out _ _ ?_ (fun hHeld2 => ?_)
    · (try dsimp only); exact S5.mk (by go_grown) (by omega)
    clear hK K hHeld; have hHeld := hHeld2; clear hHeld2; (try simp only [Act.put, List.setIfInBounds_toArray, List.set_cons_zero, List.set_cons_succ])
    refine wpAnyH_ready (rs := [4]) (by kernel_rfl) (by simp) ?_
    refine AllReadyH.cons rfl (fun K hK => ?_) AllReadyH.nil
    rw [if_pos (by rfl)]
    go_simp
    refine hK.out _ _ ?_ (fun hHeld2 => ?_)
    · (try dsimp only); exact hHeld
    clear hK K hHeld; have hHeld := hHeld2; clear hHeld2; (try simp only [Act.put, List.setIfInBounds_toArray, List.set_cons_zero, List.set_cons_succ])
    refine wpAnyH_ready (rs := [15]) (by kernel_rfl) (by simp) ?_
    refine AllReadyH.cons rfl (fun K hK => ?_) AllReadyH.nil
    refine step_push elem_ch (by rfl) (.tmp 44) (.tmp 54) 22 (by rfl) Tryz.underlying22 0 v1 cs (⟨x1, x2, zx3, zx4⟩ : Ch) (by rfl) (HOW.out.alloc _) n1 HN1.out w4.heap.size 1 (by rfl) (fun i u hu => ((Bk.new w4 #[.string x1, .string x2, .int .i64 zx3, .int .i64 zx4] 90).cell i).trans (by simpa [chC] using hu)) (by unfold maxLen; omega) (by omega) (by simp only [World.size_drew, World.size_alloc]; omega) ?_
    intro g5 cap5 w5 hown5 hgrow5 hat5 hlt5 hkeep5
    have hz5 := hgrow5.size
    simp only [World.size_drew, World.size_alloc] at hz5
    have hbk5 : Bk w5 bF 26 #[v1, .slice A2 n2 c2, .slice A3 n3 c3] := (hgrow5.block _ (by simp only [World.size_drew, World.size_alloc]; omega) (fun e => by have h2 := HI.out _ e.symm; omega)).trans (HBV.out.alloc _)
    have e5' := hbk5.cell 0
    have f5 := hbk5.frozen 0
    have hgl5 := hbk5.lt
    refine hK.out _ _ ?_ (fun hHeld2 => ?_)
    · (try dsimp only); exact S5.push hHeld hgrow5 (fun k hk => (HI.out k hk).1) (by simp only [World.size_drew, World.size_alloc]; omega)
    clear hK K hHeld; have hHeld := hHeld2; clear hHeld2; (try simp only [Act.put, List.setIfInBounds_toArray, List.set_cons_zero, List.set_cons_succ])
    first | (refine take_on (i := 16) (v := ?_) rfl (by kernel_rfl) (by kernel_rfl) (by kernel_rfl) (fun _ _ _ h => h) rfl ?_ (by assumption) ?_; rotate_left; · (intro w' hSw; (try dsimp only at hSw); go_simp; (try with_reducible rfl))) | (refine take_off (i := 16) rfl (by kernel_rfl) (by kernel_rfl) (by kernel_rfl) (fun _ _ _ h => h) rfl (by assumption) ?_)
    (try simp only [Act.put, List.setIfInBounds_toArray, List.set_cons_zero, List.set_cons_succ])
    first | (refine take_on (i := 17) (v := ?_) rfl (by kernel_rfl) (by kernel_rfl) (by kernel_rfl) (fun _ _ _ h => h) rfl ?_ (by assumption) ?_; rotate_left; · (intro w' hSw; (try dsimp only at hSw); go_simp; (try with_reducible rfl))) | (refine take_off (i := 17) rfl (by kernel_rfl) (by kernel_rfl) (by kernel_rfl) (fun _ _ _ h => h) rfl (by assumption) ?_)
    (try simp only [Act.put, List.setIfInBounds_toArray, List.set_cons_zero, List.set_cons_succ])
    refine wpAnyH_ready (rs := [18]) (by kernel_rfl) (by simp) ?_
    refine AllReadyH.cons rfl (fun K hK => ?_) AllReadyH.nil
    rw [if_pos (by rfl)]
    go_simp
    refine hK.out _ _ ?_ (fun hHeld2 => ?_)
    · (try dsimp only); exact S5.storeo 0 hHeld _
    clear hK K hHeld; have hHeld := hHeld2; clear hHeld2; (try simp only [Act.put, List.setIfInBounds_toArray, List.set_cons_zero, List.set_cons_succ])
    refine wpAnyH_done (by kernel_rfl) ?_ _
    have hS := hHeld.2.2
    clear hHeld
    go_wp2_with fail
    go_ret
    have hg5 := hgrow5
    rw [← HV.out] at hg5
    have ha5 := hat5
    rw [← HV.out] at ha5
    have hpush := FileMine.pushCh (g := g5) (cap := cap5) (B := 0) (wi := w4) (a := (⟨x1, x2, zx3, zx4⟩ : Ch)) (HMI.out.next hBw4) (by omega) hlo (by go_grown) hg5 ha5 hlt5 (by rw [HN1.out]; exact hown5)
    have hsz : (w5.setCell ⟨bF, 0, none⟩ (.slice (some ⟨g5, 0, none⟩) (n1 + 1) cap5)).heap.size = w5.heap.size := by simp [World.setCell]
    refine ⟨⟨⟨some ⟨g5, 0, none⟩, cap5, cs ++ [(⟨x1, x2, zx3, zx4⟩ : Ch)]⟩, ⟨A2, c2, ss⟩, ⟨A3, c3, ns⟩⟩, rfl, by rw [← HP.out]; rfl, ⟨?_, ?_, hlt, ?_, ?_⟩, ?_⟩
    · have h1 := hbk5.put 0 (.slice (some ⟨g5, 0, none⟩) (n1 + 1) cap5)
      show Bk _ bF 26 #[.slice (some ⟨g5, 0, none⟩) (cs ++ [(⟨x1, x2, zx3, zx4⟩ : Ch)]).length cap5, .slice A2 ss.length c2, .slice A3 ns.length c3]
      rw [List.length_append, HN1.out, HN2.out, HN3.out]
      simpa using h1
    · have h2 := hpush.set (bF := bF) (o := 0) (u := .slice (some ⟨g5, 0, none⟩) (n1 + 1) cap5) hlt
      exact h2.low (Nat.le_refl _) (by rw [hsz]; exact Nat.le_refl _)
    · rw [hsz]; omega
    · rw [hsz]; exact Nat.le_refl _
    · exact (Apart.of_below (hBw4.mono (show base ≤ w.heap.size by omega))).trans hS
set_option maxHeartbeats 4000000 in
theorem rfl_no (bF base hi : Nat) (A1 A2 A3 : Option Addr) (c1 c2 c3 : Nat) (cs : List Ch) (ss : List (Sl (Sl Int))) (ns : List No) (p : FlP) (gw : Nat) (w : World) (hfa : FA w bF base hi ⟨⟨A1, c1, cs⟩, ⟨A2, c2, ss⟩, ⟨A3, c3, ns⟩⟩) (hp : filePl ⟨⟨A1, c1, cs⟩, ⟨A2, c2, ss⟩, ⟨A3, c3, ns⟩⟩ = p) (hgw : hi ≤ gw) (hgl : gw < w.heap.size) (hcnt : cs.length ≤ 1048576 ∧ ss.length ≤ 1048576 ∧ ns.length ≤ 1048576) (x0 x1 x2 x3 : ByteArray) (hrd : RdT w (some ⟨gw, 0, none⟩) 4 [x0, x1, x2, x3]) (hxx1 : x1.size ≤ 1048576) (hxx2 : x2.size ≤ 1048576) (e1 : (x0.toList == [99, 104, 97, 110, 110, 101, 108]) = false) (e2 : (x0.toList == [115, 116, 114, 111, 107, 101]) = false) (e3 : (x0.toList == [110, 111, 116, 101]) = true) (hm : MaxIs w) (ht : Tab10 w) (he : ErrIs w) :
    Calls Tryz.prog 20 #[.pointer (some ⟨bF, 0, none⟩), .slice (some ⟨gw, 0, none⟩) 4 4] w (FaPost bF base (addNo p ⟨(decR x1.data.toList).1, (decR x2.data.toList).1, x3⟩) w) := by
  obtain ⟨hbk, hmi, hlt, hlo, htop⟩ := hfa
  obtain ⟨k1, k2, k3⟩ := hcnt
  obtain ⟨n1, hn1⟩ : ∃ n, cs.length = n := ⟨_, rfl⟩
  obtain ⟨n2, hn2⟩ : ∃ n, ss.length = n := ⟨_, rfl⟩
  obtain ⟨n3, hn3⟩ : ∃ n, ns.length = n := ⟨_, rfl⟩
  have hbk' : Bk w bF 26 #[.slice A1 n1 c1, .slice A2 n2 c2, .slice A3 n3 c3] := by rw [← hn1, ← hn2, ← hn3]; exact hbk
  have HBK := Lib.hid hbk'
  have HMI := Lib.hid hmi
  have HP := Lib.hid hp
  have HN1 := Lib.hid hn1
  have HN2 := Lib.hid hn2
  have HN3 := Lib.hid hn3
  rw [hn1] at k1
  rw [hn2] at k2
  rw [hn3] at k3
  have hbl : bF < w.heap.size := hbk'.lt
  have hbg : ¬ gw = bF := by omega
  clear hbk hbk' hmi hp hn1 hn2 hn3
  have HT := Lib.hid ht
  have HE := Lib.hid he
  have y0 : w.cell? ⟨gw, 0, none⟩ = some (.string x0) := hrd.get rfl (j := 0) (by simp)
  have Y0 := Lib.hid y0
  have y1 : w.cell? ⟨gw, 1, none⟩ = some (.string x1) := hrd.get rfl (j := 1) (by simp)
  have Y1 := Lib.hid y1
  have y2 : w.cell? ⟨gw, 2, none⟩ = some (.string x2) := hrd.get rfl (j := 2) (by simp)
  have Y2 := Lib.hid y2
  have y3 : w.cell? ⟨gw, 3, none⟩ = some (.string x3) := hrd.get rfl (j := 3) (by simp)
  have Y3 := Lib.hid y3
  obtain ⟨⟨zx1, bx1⟩, hzx1⟩ : ∃ r, decR x1.data.toList = r := ⟨_, rfl⟩
  have HDx1 := Lib.hid (iReadDecimal_any x1 hxx1)
  rw [hzx1] at HDx1 ⊢
  clear hzx1
  obtain ⟨⟨zx2, bx2⟩, hzx2⟩ : ∃ r, decR x2.data.toList = r := ⟨_, rfl⟩
  have HDx2 := Lib.hid (iReadDecimal_any x2 hxx2)
  rw [hzx2] at HDx2 ⊢
  clear hzx2
  have hBw : Below w.heap.size w w := Below.refl _ _
  clear ht he hrd
  go_enter Tryz.func20, Tryz.ntmps20
  go_wp2_with fail
  refine (HDx1.out _ (HT.out.below hBw) (HE.out.below hBw)).mono ?_
  rintro e w3 ⟨rfl, hbw3⟩
  unfold decV
  have hBw3 : Below w.heap.size w w3 := Below.next hBw hbw3
  clear hbw3
  clear y0 y1 y2 y3
  have y0w3 : w3.cell? ⟨gw, 0, none⟩ = some (.string x0) := (hBw3.cell (p := ⟨gw, 0, none⟩) hgl).trans Y0.out
  have y1w3 : w3.cell? ⟨gw, 1, none⟩ = some (.string x1) := (hBw3.cell (p := ⟨gw, 1, none⟩) hgl).trans Y1.out
  have y2w3 : w3.cell? ⟨gw, 2, none⟩ = some (.string x2) := (hBw3.cell (p := ⟨gw, 2, none⟩) hgl).trans Y2.out
  have y3w3 : w3.cell? ⟨gw, 3, none⟩ = some (.string x3) := (hBw3.cell (p := ⟨gw, 3, none⟩) hgl).trans Y3.out
  have hgl3 : gw < w3.heap.size := Nat.lt_of_lt_of_le hgl hBw3.size
  go_wp2_with fail
  refine (HDx2.out _ (HT.out.below hBw3) (HE.out.below hBw3)).mono ?_
  rintro e w4 ⟨rfl, hbw4⟩
  unfold decV
  have hBw4 : Below w.heap.size w w4 := Below.next hBw3 hbw4
  clear hbw4
  clear y0w3 y1w3 y2w3 y3w3
  have y0w4 : w4.cell? ⟨gw, 0, none⟩ = some (.string x0) := (hBw4.cell (p := ⟨gw, 0, none⟩) hgl).trans Y0.out
  have y1w4 : w4.cell? ⟨gw, 1, none⟩ = some (.string x1) := (hBw4.cell (p := ⟨gw, 1, none⟩) hgl).trans Y1.out
  have y2w4 : w4.cell? ⟨gw, 2, none⟩ = some (.string x2) := (hBw4.cell (p := ⟨gw, 2, none⟩) hgl).trans Y2.out
  have y3w4 : w4.cell? ⟨gw, 3, none⟩ = some (.string x3) := (hBw4.cell (p := ⟨gw, 3, none⟩) hgl).trans Y3.out
  have hgl4 : gw < w4.heap.size := Nat.lt_of_lt_of_le hgl hBw4.size
  have hzw4 := hBw4.size
  have hbkw4 := HBK.out.next hBw4
  have hbl4 := hbkw4.lt
  obtain ⟨v3, hv3⟩ : ∃ v, Value.slice A3 n3 c3 = v := ⟨_, rfl⟩
  have hvv : Value.slice A3 ns.length c3 = v3 := by rw [← hv3, HN3.out]
  have HI : Hid (∀ k, v3.ownBlock = some k → base ≤ k ∧ k < hi) := fun k hk => HMI.out.no.rng k (Kd.fp_top (s := ⟨A3, c3, ns⟩) (by rw [← hvv] at hk; exact hk))
  have HOW : Hid (Own noC 95 3 w4 0 v3 ns) := by rw [← hvv]; exact (HMI.out.next hBw4).no.own.1
  have HV := Lib.hid hvv
  have hbkv : Bk w4 bF 26 #[.slice A1 n1 c1, .slice A2 n2 c2, v3] := by rw [← hv3]; exact hbkw4
  have HBV := Lib.hid hbkv
  have cb : w4.cell? ⟨bF, 2, none⟩ = some v3 := hbkv.cell 2
  have fb : w4.frozen? ⟨bF, 2, none⟩ = false := hbkv.frozen 2
  have hu4 : ¬ v3.ownBlock = some gw := fun e => by have h2 := HI.out _ e; omega
  clear hvv hbkv hv3
  go_wp2_with fail
  refine wp_region_held_drew (S := (fun w' => (∀ kb ko, kb < w4.heap.size → ¬ v3.ownBlock = some kb → ¬ kb = bF → w'.cell? ⟨kb, ko, none⟩ = w4.cell? ⟨kb, ko, none⟩) ∧ w4.heap.size ≤ w'.heap.size ∧ Apart bF base w4 w')) (by kernel_rfl) ?_ (fun hHeld => ?_)
  · (try dsimp only); exact S5.mk ((Below.refl _ _).drew) (by omega)
  first | (refine take_on (i := 0) (v := ?_) rfl (by kernel_rfl) (by kernel_rfl) (by kernel_rfl) (fun _ _ _ h => h) rfl ?_ (by assumption) ?_; rotate_left; · (intro w' hSw; (try dsimp only at hSw); go_simp; (try with_reducible rfl))) | (refine take_off (i := 0) rfl (by kernel_rfl) (by kernel_rfl) (by kernel_rfl) (fun _ _ _ h => h) rfl (by assumption) ?_)
  (try simp only [Act.put, List.setIfInBounds_toArray, List.set_cons_zero, List.set_cons_succ])
  first | (refine take_on (i := 1) (v := ?_) rfl (by kernel_rfl) (by kernel_rfl) (by kernel_rfl) (fun _ _ _ h => h) rfl ?_ (by assumption) ?_; rotate_left; · (intro w' hSw; (try dsimp only at hSw); go_simp; (try with_reducible rfl))) | (refine take_off (i := 1) rfl (by kernel_rfl) (by kernel_rfl) (by kernel_rfl) (fun _ _ _ h => h) rfl (by assumption) ?_)
  (try simp only [Act.put, List.setIfInBounds_toArray, List.set_cons_zero, List.set_cons_succ])
  first | (refine take_on (i := 2) (v := ?_) rfl (by kernel_rfl) (by kernel_rfl) (by kernel_rfl) (fun _ _ _ h => h) rfl ?_ (by assumption) ?_; rotate_left; · (intro w' hSw; (try dsimp only at hSw); go_simp; (try with_reducible rfl))) | (refine take_off (i := 2) rfl (by kernel_rfl) (by kernel_rfl) (by kernel_rfl) (fun _ _ _ h => h) rfl (by assumption) ?_)
  (try simp only [Act.put, List.setIfInBounds_toArray, List.set_cons_zero, List.set_cons_succ])
  first | (refine take_on (i := 3) (v := ?_) rfl (by kernel_rfl) (by kernel_rfl) (by kernel_rfl) (fun _ _ _ h => h) rfl ?_ (by assumption) ?_; rotate_left; · (intro w' hSw; (try dsimp only at hSw); go_simp; (try with_reducible rfl))) | (refine take_off (i := 3) rfl (by kernel_rfl) (by kernel_rfl) (by kernel_rfl) (fun _ _ _ h => h) rfl (by assumption) ?_)
  (try simp only [Act.put, List.setIfInBounds_toArray, List.set_cons_zero, List.set_cons_succ])
  first | (refine take_on (i := 5) (v := ?_) rfl (by kernel_rfl) (by kernel_rfl) (by kernel_rfl) (fun _ _ _ h => h) rfl ?_ (by assumption) ?_; rotate_left; · (intro w' hSw; (try dsimp only at hSw); go_simp; (try with_reducible rfl))) | (refine take_off (i := 5) rfl (by kernel_rfl) (by kernel_rfl) (by kernel_rfl) (fun _ _ _ h => h) rfl (by assumption) ?_)
  (try simp only [Act.put, List.setIfInBounds_toArray, List.set_cons_zero, List.set_cons_succ])
  first | (refine take_on (i := 6) (v := ?_) rfl (by kernel_rfl) (by kernel_rfl) (by kernel_rfl) (fun _ _ _ h => h) rfl ?_ (by assumption) ?_; rotate_left; · (intro w' hSw; (try dsimp only at hSw); go_simp; (try with_reducible rfl))) | (refine take_off (i := 6) rfl (by kernel_rfl) (by kernel_rfl) (by kernel_rfl) (fun _ _ _ h => h) rfl (by assumption) ?_)
  (try simp only [Act.put, List.setIfInBounds_toArray, List.set_cons_zero, List.set_cons_succ])
  first | (refine take_on (i := 7) (v := ?_) rfl (by kernel_rfl) (by kernel_rfl) (by kernel_rfl) (fun _ _ _ h => h) rfl ?_ (by assumption) ?_; rotate_left; · (intro w' hSw; (try dsimp only at hSw); go_simp; (try with_reducible rfl))) | (refine take_off (i := 7) rfl (by kernel_rfl) (by kernel_rfl) (by kernel_rfl) (fun _ _ _ h => h) rfl (by assumption) ?_)
  (try simp only [Act.put, List.setIfInBounds_toArray, List.set_cons_zero, List.set_cons_succ])
  first | (refine take_on (i := 8) (v := ?_) rfl (by kernel_rfl) (by kernel_rfl) (by kernel_rfl) (fun _ _ _ h => h) rfl ?_ (by assumption) ?_; rotate_left; · (intro w' hSw; (try dsimp only at hSw); go_simp; (try with_reducible rfl))) | (refine take_off (i := 8) rfl (by kernel_rfl) (by kernel_rfl) (by kernel_rfl) (fun _ _ _ h => h) rfl (by assumption) ?_)
  (try simp only [Act.put, List.setIfInBounds_toArray, List.set_cons_zero, List.set_cons_succ])
  first | (refine take_on (i := 9) (v := ?_) rfl (by kernel_rfl) (by kernel_rfl) (by kernel_rfl) (fun _ _ _ h => h) rfl ?_ (by assumption) ?_; rotate_left; · (intro w' hSw; (try dsimp only at hSw); go_simp; (try with_reducible rfl))) | (refine take_off (i := 9) rfl (by kernel_rfl) (by kernel_rfl) (by kernel_rfl) (fun _ _ _ h => h) rfl (by assumption) ?_)
  (try simp only [Act.put, List.setIfInBounds_toArray, List.set_cons_zero, List.set_cons_succ])
  first | (refine take_on (i := 10) (v := ?_) rfl (by kernel_rfl) (by kernel_rfl) (by kernel_rfl) (fun _ _ _ h => h) rfl ?_ (by assumption) ?_; rotate_left; · (intro w' hSw; (try dsimp only at hSw); go_simp; (try with_reducible rfl))) | (refine take_off (i := 10) rfl (by kernel_rfl) (by kernel_rfl) (by kernel_rfl) (fun _ _ _ h => h) rfl (by assumption) ?_)
  (try simp only [Act.put, List.setIfInBounds_toArray, List.set_cons_zero, List.set_cons_succ])
  refine wpAnyH_ready (rs := [4, 11]) (by kernel_rfl) (by simp) ?_
  refine AllReadyH.cons rfl (fun K hK => ?_) (AllReadyH.cons rfl (fun K hK => ?_) (AllReadyH.nil))
  · rw [if_pos (by rfl)]
    go_simp
    refine hK.out _ _ ?_ (fun hHeld2 => ?_)
    · (try dsimp only); exact hHeld
    clear hK K hHeld; have hHeld := hHeld2; clear hHeld2; (try simp only [Act.put, List.setIfInBounds_toArray, List.set_cons_zero, List.set_cons_succ])
    refine wpAnyH_ready (rs := [11]) (by kernel_rfl) (by simp) ?_
    refine AllReadyH.cons rfl (fun K hK => ?_) AllReadyH.nil
    rw [if_pos (by rfl)]
    go_simp
    refine hK.out _ _ ?_ (fun hHeld2 => ?_)
    · (try dsimp only); exact S5.mk (by go_grown) (by omega)
    clear hK K hHeld; have hHeld := hHeld2; clear hHeld2; (try simp only [Act.put, List.setIfInBounds_toArray, List.set_cons_zero, List.set_cons_succ])
    refine wpAnyH_ready (rs := [12]) (by kernel_rfl) (by simp) ?_
    refine AllReadyH.cons rfl (fun K hK => ?_) AllReadyH.nil
    refine step_push elem_no (by rfl) (.tmp 116) (.tmp 123) 24 (by rfl) Tryz.underlying24 0 v3 ns (⟨zx1, zx2, x3⟩ : No) (by rfl) (HOW.out.alloc _) n3 HN3.out w4.heap.size 1 (by rfl) (fun i u hu => ((Bk.new w4 #[.int .i64 zx1, .int .i64 zx2, .string x3] 95).cell i).trans (by simpa [noC] using hu)) (by unfold maxLen; omega) (by omega) (by simp only [World.size_drew, World.size_alloc]; omega) ?_
    intro g5 cap5 w5 hown5 hgrow5 hat5 hlt5 hkeep5
    have hz5 := hgrow5.size
    simp only [World.size_drew, World.size_alloc] at hz5
    have hbk5 : Bk w5 bF 26 #[.slice A1 n1 c1, .slice A2 n2 c2, v3] := (hgrow5.block _ (by simp only [World.size_drew, World.size_alloc]; omega) (fun e => by have h2 := HI.out _ e.symm; omega)).trans (HBV.out.alloc _)
    have e5' := hbk5.cell 2
    have f5 := hbk5.frozen 2
    have hgl5 := hbk5.lt
    refine hK.out _ _ ?_ (fun hHeld2 => ?_)
    · (try dsimp only); exact S5.push hHeld hgrow5 (fun k hk => (HI.out k hk).1) (by simp only [World.size_drew, World.size_alloc]; omega)
    clear hK K hHeld; have hHeld := hHeld2; clear hHeld2; (try simp only [Act.put, List.setIfInBounds_toArray, List.set_cons_zero, List.set_cons_succ])
    first | (refine take_on (i := 13) (v := ?_) rfl (by kernel_rfl) (by kernel_rfl) (by kernel_rfl) (fun _ _ _ h => h) rfl ?_ (by assumption) ?_; rotate_left; · (intro w' hSw; (try dsimp only at hSw); go_simp; (try with_reducible rfl))) | (refine take_off (i := 13) rfl (by kernel_rfl) (by kernel_rfl) (by kernel_rfl) (fun _ _ _ h => h) rfl (by assumption) ?_)
    (try simp only [Act.put, List.setIfInBounds_toArray, List.set_cons_zero, List.set_cons_succ])
    first | (refine take_on (i := 14) (v := ?_) rfl (by kernel_rfl) (by kernel_rfl) (by kernel_rfl) (fun _ _ _ h => h) rfl ?_ (by assumption) ?_; rotate_left; · (intro w' hSw; (try dsimp only at hSw); go_simp; (try with_reducible rfl))) | (refine take_off (i := 14) rfl (by kernel_rfl) (by kernel_rfl) (by kernel_rfl) (fun _ _ _ h => h) rfl (by assumption) ?_)
    (try simp only [Act.put, List.setIfInBounds_toArray, List.set_cons_zero, List.set_cons_succ])
    refine wpAnyH_ready (rs := [15]) (by kernel_rfl) (by simp) ?_
    refine AllReadyH.cons rfl (fun K hK => ?_) AllReadyH.nil
    rw [if_pos (by rfl)]
    go_simp
    refine hK.out _ _ ?_ (fun hHeld2 => ?_)
    · (try dsimp only); exact S5.storeo 2 hHeld _
    clear hK K hHeld; have hHeld := hHeld2; clear hHeld2; (try simp only [Act.put, List.setIfInBounds_toArray, List.set_cons_zero, List.set_cons_succ])
    refine wpAnyH_done (by kernel_rfl) ?_ _
    have hS := hHeld.2.2
    clear hHeld
    go_wp2_with fail
    go_ret
    have hg5 := hgrow5
    rw [← HV.out] at hg5
    have ha5 := hat5
    rw [← HV.out] at ha5
    have hpush := FileMine.pushNo (g := g5) (cap := cap5) (B := 0) (wi := w4) (a := (⟨zx1, zx2, x3⟩ : No)) (HMI.out.next hBw4) (by omega) hlo (by go_grown) hg5 ha5 hlt5 (by rw [HN3.out]; exact hown5)
    have hsz : (w5.setCell ⟨bF, 2, none⟩ (.slice (some ⟨g5, 0, none⟩) (n3 + 1) cap5)).heap.size = w5.heap.size := by simp [World.setCell]
    refine ⟨⟨⟨A1, c1, cs⟩, ⟨A2, c2, ss⟩, ⟨some ⟨g5, 0, none⟩, cap5, ns ++ [(⟨zx1, zx2, x3⟩ : No)]⟩⟩, rfl, by rw [← HP.out]; rfl, ⟨?_, ?_, hlt, ?_, ?_⟩, ?_⟩
    · have h1 := hbk5.put 2 (.slice (some ⟨g5, 0, none⟩) (n3 + 1) cap5)
      show Bk _ bF 26 #[.slice A1 cs.length c1, .slice A2 ss.length c2, .slice (some ⟨g5, 0, none⟩) (ns ++ [(⟨zx1, zx2, x3⟩ : No)]).length cap5]
      rw [List.length_append, HN1.out, HN2.out, HN3.out]
      simpa using h1
    · have h2 := hpush.set (bF := bF) (o := 2) (u := .slice (some ⟨g5, 0, none⟩) (n3 + 1) cap5) hlt
      exact h2.low (Nat.le_refl _) (by rw [hsz]; exact Nat.le_refl _)
    · rw [hsz]; omega
    · rw [hsz]; exact Nat.le_refl _
    · exact (Apart.of_below (hBw4.mono (show base ≤ w.heap.size by omega))).trans hS
  · rw [if_pos (by rfl)]
    go_simp
    refine hK.out _ _ ?_ (fun hHeld2 => ?_)
    · (try dsimp only); exact S5.mk (by go_grown) (by omega)
    clear hK K hHeld; have hHeld := hHeld2; clear hHeld2; (try simp only [Act.put, List.setIfInBounds_toArray, List.set_cons_zero, List.set_cons_succ])
    refine wpAnyH_ready (rs := [4]) (by kernel_rfl) (by simp) ?_
    refine AllReadyH.cons rfl (fun K hK => ?_) AllReadyH.nil
    rw [if_pos (by rfl)]
    go_simp
    refine hK.out _ _ ?_ (fun hHeld2 => ?_)
    · (try dsimp only); exact hHeld
    clear hK K hHeld; have hHeld := hHeld2; clear hHeld2; (try simp only [Act.put, List.setIfInBounds_toArray, List.set_cons_zero, List.set_cons_succ])
    refine wpAnyH_ready (rs := [12]) (by kernel_rfl) (by simp) ?_
    refine AllReadyH.cons rfl (fun K hK => ?_) AllReadyH.nil
    refine step_push elem_no (by rfl) (.tmp 116) (.tmp 123) 24 (by rfl) Tryz.underlying24 0 v3 ns (⟨zx1, zx2, x3⟩ : No) (by rfl) (HOW.out.alloc _) n3 HN3.out w4.heap.size 1 (by rfl) (fun i u hu => ((Bk.new w4 #[.int .i64 zx1, .int .i64 zx2, .string x3] 95).cell i).trans (by simpa [noC] using hu)) (by unfold maxLen; omega) (by omega) (by simp only [World.size_drew, World.size_alloc]; omega) ?_
    intro g5 cap5 w5 hown5 hgrow5 hat5 hlt5 hkeep5
    have hz5 := hgrow5.size
    simp only [World.size_drew, World.size_alloc] at hz5
    have hbk5 : Bk w5 bF 26 #[.slice A1 n1 c1, .slice A2 n2 c2, v3] := (hgrow5.block _ (by simp only [World.size_drew, World.size_alloc]; omega) (fun e => by have h2 := HI.out _ e.symm; omega)).trans (HBV.out.alloc _)
    have e5' := hbk5.cell 2
    have f5 := hbk5.frozen 2
    have hgl5 := hbk5.lt
    refine hK.out _ _ ?_ (fun hHeld2 => ?_)
    · (try dsimp only); exact S5.push hHeld hgrow5 (fun k hk => (HI.out k hk).1) (by simp only [World.size_drew, World.size_alloc]; omega)
    clear hK K hHeld; have hHeld := hHeld2; clear hHeld2; (try simp only [Act.put, List.setIfInBounds_toArray, List.set_cons_zero, List.set_cons_succ])
    first | (refine take_on (i := 13) (v := ?_) rfl (by kernel_rfl) (by kernel_rfl) (by kernel_rfl) (fun _ _ _ h => h) rfl ?_ (by assumption) ?_; rotate_left; · (intro w' hSw; (try dsimp only at hSw); go_simp; (try with_reducible rfl))) | (refine take_off (i := 13) rfl (by kernel_rfl) (by kernel_rfl) (by kernel_rfl) (fun _ _ _ h => h) rfl (by assumption) ?_)
    (try simp only [Act.put, List.setIfInBounds_toArray, List.set_cons_zero, List.set_cons_succ])
    first | (refine take_on (i := 14) (v := ?_) rfl (by kernel_rfl) (by kernel_rfl) (by kernel_rfl) (fun _ _ _ h => h) rfl ?_ (by assumption) ?_; rotate_left; · (intro w' hSw; (try dsimp only at hSw); go_simp; (try with_reducible rfl))) | (refine take_off (i := 14) rfl (by kernel_rfl) (by kernel_rfl) (by kernel_rfl) (fun _ _ _ h => h) rfl (by assumption) ?_)
    (try simp only [Act.put, List.setIfInBounds_toArray, List.set_cons_zero, List.set_cons_succ])
    refine wpAnyH_ready (rs := [15]) (by kernel_rfl) (by simp) ?_
    refine AllReadyH.cons rfl (fun K hK => ?_) AllReadyH.nil
    rw [if_pos (by rfl)]
    go_simp
    refine hK.out _ _ ?_ (fun hHeld2 => ?_)
    · (try dsimp only); exact S5.storeo 2 hHeld _
    clear hK K hHeld; have hHeld := hHeld2; clear hHeld2; (try simp only [Act.put, List.setIfInBounds_toArray, List.set_cons_zero, List.set_cons_succ])
    refine wpAnyH_done (by kernel_rfl) ?_ _
    have hS := hHeld.2.2
    clear hHeld
    go_wp2_with fail
    go_ret
    have hg5 := hgrow5
    rw [← HV.out] at hg5
    have ha5 := hat5
    rw [← HV.out] at ha5
    have hpush := FileMine.pushNo (g := g5) (cap := cap5) (B := 0) (wi := w4) (a := (⟨zx1, zx2, x3⟩ : No)) (HMI.out.next hBw4) (by omega) hlo (by go_grown) hg5 ha5 hlt5 (by rw [HN3.out]; exact hown5)
    have hsz : (w5.setCell ⟨bF, 2, none⟩ (.slice (some ⟨g5, 0, none⟩) (n3 + 1) cap5)).heap.size = w5.heap.size := by simp [World.setCell]
    refine ⟨⟨⟨A1, c1, cs⟩, ⟨A2, c2, ss⟩, ⟨some ⟨g5, 0, none⟩, cap5, ns ++ [(⟨zx1, zx2, x3⟩ : No)]⟩⟩, rfl, by rw [← HP.out]; rfl, ⟨?_, ?_, hlt, ?_, ?_⟩, ?_⟩
    · have h1 := hbk5.put 2 (.slice (some ⟨g5, 0, none⟩) (n3 + 1) cap5)
      show Bk _ bF 26 #[.slice A1 cs.length c1, .slice A2 ss.length c2, .slice (some ⟨g5, 0, none⟩) (ns ++ [(⟨zx1, zx2, x3⟩ : No)]).length cap5]
      rw [List.length_append, HN1.out, HN2.out, HN3.out]
      simpa using h1
    · have h2 := hpush.set (bF := bF) (o := 2) (u := .slice (some ⟨g5, 0, none⟩) (n3 + 1) cap5) hlt
      exact h2.low (Nat.le_refl _) (by rw [hsz]; exact Nat.le_refl _)
    · rw [hsz]; omega
    · rw [hsz]; exact Nat.le_refl _
    · exact (Apart.of_below (hBw4.mono (show base ≤ w.heap.size by omega))).trans hS
end Go.Proofs.YtmdmjnhebbhjbaaGreatDoor
namespace Go.Proofs.YtmdmjnhebbhjbaaGreatDoor
set_option linter.unusedSimpArgs false
set_option linter.unusedVariables false
set_option maxRecDepth 20000
open Go.RowKit
open Go.ChangeShapes Go.WideShapes Go.Deep Go.Joins

theorem file_pushSt {C : Sl Ch} {N : Sl No} {A2 A : Option Addr} {c2 c : Nat} {ss : List (Sl (Sl Int))} {R : Sl (Sl Int)} {p : FlP} {rs : List (List Int)} (h : filePl ⟨C, ⟨A2, c2, ss⟩, N⟩ = p) (hR : rowsK.pl R = rs) : filePl ⟨C, ⟨A, c, ss ++ [R]⟩, N⟩ = addSt p rs := by
  subst h
  subst hR
  show FlP.mk C.l ((ss ++ [R]).map rowsK.pl) N.l = FlP.mk C.l (ss.map rowsK.pl ++ [rowsK.pl R]) N.l
  rw [List.map_append]
  rfl
set_option maxHeartbeats 4000000 in
theorem rfl_st (bF base hi : Nat) (A1 A2 A3 : Option Addr) (c1 c2 c3 : Nat) (cs : List Ch) (ss : List (Sl (Sl Int))) (ns : List No) (p : FlP) (gw : Nat) (w : World) (hfa : FA w bF base hi ⟨⟨A1, c1, cs⟩, ⟨A2, c2, ss⟩, ⟨A3, c3, ns⟩⟩) (hp : filePl ⟨⟨A1, c1, cs⟩, ⟨A2, c2, ss⟩, ⟨A3, c3, ns⟩⟩ = p) (hgw : hi ≤ gw) (hgl : gw < w.heap.size) (hcnt : cs.length ≤ 1048576 ∧ ss.length ≤ 1048576 ∧ ns.length ≤ 1048576) (nt : Nat) (x0 : ByteArray) (T : List ByteArray) (hnt : T.length = nt) (hntb : nt ≤ 1048576) (hrd : RdT w (some ⟨gw, 0, none⟩) (nt + 1) (x0 :: T)) (hts : ∀ x ∈ T, x.size ≤ 1048576) (e1 : (x0.toList == [99, 104, 97, 110, 110, 101, 108]) = false) (e2 : (x0.toList == [115, 116, 114, 111, 107, 101]) = true) (hm : MaxIs w) (ht : Tab10 w) (he : ErrIs w) :
    Calls Tryz.prog 20 #[.pointer (some ⟨bF, 0, none⟩), .slice (some ⟨gw, 0, none⟩) (nt + 1) (nt + 1)] w (FaPost bF base (addSt p (T.map fun x => numsD x.data.toList)) w) := by
  obtain ⟨hbk, hmi, hlt, hlo, htop⟩ := hfa
  obtain ⟨k1, k2, k3⟩ := hcnt
  obtain ⟨n1, hn1⟩ : ∃ n, cs.length = n := ⟨_, rfl⟩
  obtain ⟨n2, hn2⟩ : ∃ n, ss.length = n := ⟨_, rfl⟩
  obtain ⟨n3, hn3⟩ : ∃ n, ns.length = n := ⟨_, rfl⟩
  have hbk' : Bk w bF 26 #[.slice A1 n1 c1, .slice A2 n2 c2, .slice A3 n3 c3] := by rw [← hn1, ← hn2, ← hn3]; exact hbk
  have HBK := Lib.hid hbk'
  have HMI := Lib.hid hmi
  have HP := Lib.hid hp
  have HN1 := Lib.hid hn1
  have HN2 := Lib.hid hn2
  have HN3 := Lib.hid hn3
  rw [hn1] at k1
  rw [hn2] at k2
  rw [hn3] at k3
  have hbl : bF < w.heap.size := hbk'.lt
  have hbg : ¬ gw = bF := by omega
  clear hbk hbk' hmi hp hn1 hn2 hn3
  have HT := Lib.hid ht
  have HE := Lib.hid he
  have HM := Lib.hid hm
  have HNT := Lib.hid hnt
  have HTS := Lib.hid hts
  have HRD := Lib.hid hrd
  have y0 : w.cell? ⟨gw, 0, none⟩ = some (.string x0) := hrd.get (by simp [hnt]) (j := 0) (by simp)
  have hI0 : Hid (Bk (w.alloc (.cells #[.slice none 0 0] 93)) w.heap.size 93 #[.slice none 0 0]) := Bk.new w _ _
  clear ht he hm hnt hts hrd
  rcases nt with _ | nt
  · go_enter Tryz.func20, Tryz.ntmps20
    go_wp2_with fail
    clear y0
    go_loopw [66] (fun i wr => ∃ (j : Nat) (R : Sl (Sl Int)), j ≤ 0 ∧ i = .int .i64 (j : Int) ∧ Bk wr w.heap.size 93 #[.slice R.A j R.c] ∧ Hid (R.l.length = j) ∧ Hid (rowsK.pl R = ((T.map fun x => x.data.toList).take j).map numsD) ∧ Hid (Mine rowsK wr (w.heap.size + 1) wr.heap.size R) ∧ Below w.heap.size (w.alloc (.cells #[.slice none 0 0] 93)) wr) (fun i _ => 0 - (intOf i).toNat)
    case atStart => exact ⟨0, ⟨none, 0, []⟩, Nat.zero_le _, rfl, hI0.out, rfl, rfl, Mine.nil rowK 93 _ _ _, Below.refl _ _⟩
    case round =>
      obtain ⟨j, R, hj, rfl, hbk2, hRL, hRP, hMR, hB2⟩ := hrel
      have HRL := hRL
      have HRP := hRP
      have HMR := hMR
      have hBs := hB2.size
      simp only [World.size_alloc] at hBs
      have hBwr : Below w.heap.size w wr := ((Below.refl _ _).alloc (Nat.le_refl _) _).trans hB2
      obtain ⟨e0, f0⟩ := bk1 hbk2
      have hgl2 := hbk2.lt
      by_cases hjlt : j < 0
      · exact absurd hjlt (by omega)
      · obtain rfl : j = 0 := by omega
        have HRALL : Hid (rowsK.pl R = T.map fun x => numsD x.data.toList) := by
          have h1 := HRP.out
          rw [List.take_of_length_le (by rw [List.length_map, HNT.out]; exact Nat.le_refl _), List.map_map] at h1
          exact h1
        have HRV : Hid (R.val = .slice R.A (0) R.c) := by rw [Hid, ← HRL.out]; rfl
        have hbkwr := HBK.out.next hBwr
        have hbl4 := hbkwr.lt
        have HMI5 : Hid (FileMine wr base hi ⟨⟨A1, c1, cs⟩, ⟨A2, c2, ss⟩, ⟨A3, c3, ns⟩⟩) := HMI.out.next hBwr
        have HMR2 : Hid (Mine rowsK wr hi wr.heap.size R) := HMR.out.low (by omega) (Nat.le_refl _)
        clear hMR HMR
        have HMR := HMR2
        have hn9 : ¬ w.heap.size = bF := by omega
        obtain ⟨v2, hv2⟩ : ∃ v, Value.slice A2 n2 c2 = v := ⟨_, rfl⟩
        have hvv : Value.slice A2 ss.length c2 = v2 := by rw [← hv2, HN2.out]
        have HI : Hid (∀ k, v2.ownBlock = some k → base ≤ k ∧ k < hi) := fun k hk => HMI.out.st.rng k (Kd.fp_top (s := ⟨A2, c2, ss⟩) (by rw [← hvv] at hk; exact hk))
        have HOW : Hid (Own hdC 93 1 wr 0 v2 ss) := by rw [← hvv]; exact (HMI.out.next hBwr).st.own.1
        have HV := Lib.hid hvv
        have hbkv : Bk wr bF 26 #[.slice A1 n1 c1, v2, .slice A3 n3 c3] := by rw [← hv2]; exact hbkwr
        have HBV := Lib.hid hbkv
        have cb : wr.cell? ⟨bF, 1, none⟩ = some v2 := hbkv.cell 1
        have fb : wr.frozen? ⟨bF, 1, none⟩ = false := hbkv.frozen 1
        have hu4 : ¬ v2.ownBlock = some gw := fun e => by have h2 := HI.out _ e; omega
        clear hvv hbkv hv2
        have hu9 : ¬ v2.ownBlock = some w.heap.size := fun e => by have h2 := HI.out _ e; omega
        go_wp2_with fail
        refine wp_region_held_drew (S := (fun w' => (∀ kb ko, kb < wr.heap.size → ¬ v2.ownBlock = some kb → ¬ kb = bF → w'.cell? ⟨kb, ko, none⟩ = wr.cell? ⟨kb, ko, none⟩) ∧ wr.heap.size ≤ w'.heap.size ∧ Apart bF base wr w')) (by kernel_rfl) ?_ (fun hHeld => ?_)
        · (try dsimp only); exact S5.mk ((Below.refl _ _).drew) (by omega)
        first | (refine take_on (i := 0) (v := ?_) rfl (by kernel_rfl) (by kernel_rfl) (by kernel_rfl) (fun _ _ _ h => h) rfl ?_ (by assumption) ?_; rotate_left; · (intro w' hSw; (try dsimp only at hSw); go_simp; (try with_reducible rfl))) | (refine take_off (i := 0) rfl (by kernel_rfl) (by kernel_rfl) (by kernel_rfl) (fun _ _ _ h => h) rfl (by assumption) ?_)
        (try simp only [Act.put, List.setIfInBounds_toArray, List.set_cons_zero, List.set_cons_succ])
        first | (refine take_on (i := 1) (v := ?_) rfl (by kernel_rfl) (by kernel_rfl) (by kernel_rfl) (fun _ _ _ h => h) rfl ?_ (by assumption) ?_; rotate_left; · (intro w' hSw; (try dsimp only at hSw); go_simp; (try with_reducible rfl))) | (refine take_off (i := 1) rfl (by kernel_rfl) (by kernel_rfl) (by kernel_rfl) (fun _ _ _ h => h) rfl (by assumption) ?_)
        (try simp only [Act.put, List.setIfInBounds_toArray, List.set_cons_zero, List.set_cons_succ])
        first | (refine take_on (i := 2) (v := ?_) rfl (by kernel_rfl) (by kernel_rfl) (by kernel_rfl) (fun _ _ _ h => h) rfl ?_ (by assumption) ?_; rotate_left; · (intro w' hSw; (try dsimp only at hSw); go_simp; (try with_reducible rfl))) | (refine take_off (i := 2) rfl (by kernel_rfl) (by kernel_rfl) (by kernel_rfl) (fun _ _ _ h => h) rfl (by assumption) ?_)
        (try simp only [Act.put, List.setIfInBounds_toArray, List.set_cons_zero, List.set_cons_succ])
        first | (refine take_on (i := 3) (v := ?_) rfl (by kernel_rfl) (by kernel_rfl) (by kernel_rfl) (fun _ _ _ h => h) rfl ?_ (by assumption) ?_; rotate_left; · (intro w' hSw; (try dsimp only at hSw); go_simp; (try with_reducible rfl))) | (refine take_off (i := 3) rfl (by kernel_rfl) (by kernel_rfl) (by kernel_rfl) (fun _ _ _ h => h) rfl (by assumption) ?_)
        (try simp only [Act.put, List.setIfInBounds_toArray, List.set_cons_zero, List.set_cons_succ])
        first | (refine take_on (i := 5) (v := ?_) rfl (by kernel_rfl) (by kernel_rfl) (by kernel_rfl) (fun _ _ _ h => h) rfl ?_ (by assumption) ?_; rotate_left; · (intro w' hSw; (try dsimp only at hSw); go_simp; (try with_reducible rfl))) | (refine take_off (i := 5) rfl (by kernel_rfl) (by kernel_rfl) (by kernel_rfl) (fun _ _ _ h => h) rfl (by assumption) ?_)
        (try simp only [Act.put, List.setIfInBounds_toArray, List.set_cons_zero, List.set_cons_succ])
        refine wpAnyH_ready (rs := [4, 6]) (by kernel_rfl) (by simp) ?_
        refine AllReadyH.cons rfl (fun K hK => ?_) (AllReadyH.cons rfl (fun K hK => ?_) (AllReadyH.nil))
        · rw [if_pos (by rfl)]
          go_simp
          refine hK.out _ _ ?_ (fun hHeld2 => ?_)
          · (try dsimp only); exact hHeld
          clear hK K hHeld; have hHeld := hHeld2; clear hHeld2; (try simp only [Act.put, List.setIfInBounds_toArray, List.set_cons_zero, List.set_cons_succ])
          refine wpAnyH_ready (rs := [6]) (by kernel_rfl) (by simp) ?_
          refine AllReadyH.cons rfl (fun K hK => ?_) AllReadyH.nil
          rw [if_pos (by rfl)]
          go_simp
          refine hK.out _ _ ?_ (fun hHeld2 => ?_)
          · (try dsimp only); exact S5.mk (by go_grown) (by omega)
          clear hK K hHeld; have hHeld := hHeld2; clear hHeld2; (try simp only [Act.put, List.setIfInBounds_toArray, List.set_cons_zero, List.set_cons_succ])
          refine wpAnyH_ready (rs := [7]) (by kernel_rfl) (by simp) ?_
          refine AllReadyH.cons rfl (fun K hK => ?_) AllReadyH.nil
          refine step_push elem_rows (by rfl) (.tmp 82) (.tmp 84) 23 (by rfl) Tryz.underlying23 0 v2 ss R (by rfl) (HOW.out.alloc _) n2 HN2.out wr.heap.size 1 (by rfl) (fun i u hu => ((Bk.new wr #[.slice R.A (0) R.c] 93).cell i).trans (by have h1 := HRV.out; unfold hdC at hu; rw [h1] at hu; simpa using hu)) (by unfold maxLen; omega) (by omega) (by simp only [World.size_drew, World.size_alloc]; omega) ?_
          intro g5 cap5 w5 hown5 hgrow5 hat5 hlt5 hkeep5
          have hz5 := hgrow5.size
          simp only [World.size_drew, World.size_alloc] at hz5
          have hbk5 : Bk w5 bF 26 #[.slice A1 n1 c1, v2, .slice A3 n3 c3] := (hgrow5.block _ (by simp only [World.size_drew, World.size_alloc]; omega) (fun e => by have h2 := HI.out _ e.symm; omega)).trans (HBV.out.alloc _)
          have e5' := hbk5.cell 1
          have f5 := hbk5.frozen 1
          have hgl5 := hbk5.lt
          refine hK.out _ _ ?_ (fun hHeld2 => ?_)
          · (try dsimp only); exact S5.push hHeld hgrow5 (fun k hk => (HI.out k hk).1) (by simp only [World.size_drew, World.size_alloc]; omega)
          clear hK K hHeld; have hHeld := hHeld2; clear hHeld2; (try simp only [Act.put, List.setIfInBounds_toArray, List.set_cons_zero, List.set_cons_succ])
          first | (refine take_on (i := 8) (v := ?_) rfl (by kernel_rfl) (by kernel_rfl) (by kernel_rfl) (fun _ _ _ h => h) rfl ?_ (by assumption) ?_; rotate_left; · (intro w' hSw; (try dsimp only at hSw); go_simp; (try with_reducible rfl))) | (refine take_off (i := 8) rfl (by kernel_rfl) (by kernel_rfl) (by kernel_rfl) (fun _ _ _ h => h) rfl (by assumption) ?_)
          (try simp only [Act.put, List.setIfInBounds_toArray, List.set_cons_zero, List.set_cons_succ])
          first | (refine take_on (i := 9) (v := ?_) rfl (by kernel_rfl) (by kernel_rfl) (by kernel_rfl) (fun _ _ _ h => h) rfl ?_ (by assumption) ?_; rotate_left; · (intro w' hSw; (try dsimp only at hSw); go_simp; (try with_reducible rfl))) | (refine take_off (i := 9) rfl (by kernel_rfl) (by kernel_rfl) (by kernel_rfl) (fun _ _ _ h => h) rfl (by assumption) ?_)
          (try simp only [Act.put, List.setIfInBounds_toArray, List.set_cons_zero, List.set_cons_succ])
          refine wpAnyH_ready (rs := [10]) (by kernel_rfl) (by simp) ?_
          refine AllReadyH.cons rfl (fun K hK => ?_) AllReadyH.nil
          rw [if_pos (by rfl)]
          go_simp
          refine hK.out _ _ ?_ (fun hHeld2 => ?_)
          · (try dsimp only); exact S5.storeo 1 hHeld _
          clear hK K hHeld; have hHeld := hHeld2; clear hHeld2; (try simp only [Act.put, List.setIfInBounds_toArray, List.set_cons_zero, List.set_cons_succ])
          refine wpAnyH_done (by kernel_rfl) ?_ _
          have hS := hHeld.2.2
          clear hHeld
          go_wp2_with fail
          go_ret
          have hg5 := hgrow5
          rw [← HV.out] at hg5
          have ha5 := hat5
          rw [← HV.out] at ha5
          have hpush := FileMine.pushSt (g := g5) (cap := cap5) (B := 0) (wi := wr) (a := R) HMI5.out HMR.out (by omega) hlo (by go_grown) hg5 ha5 hlt5 (by rw [HN2.out]; exact hown5)
          have hsz : (w5.setCell ⟨bF, 1, none⟩ (.slice (some ⟨g5, 0, none⟩) (n2 + 1) cap5)).heap.size = w5.heap.size := by simp [World.setCell]
          refine ⟨⟨⟨A1, c1, cs⟩, ⟨some ⟨g5, 0, none⟩, cap5, ss ++ [R]⟩, ⟨A3, c3, ns⟩⟩, rfl, file_pushSt HP.out HRALL.out, ⟨?_, ?_, hlt, ?_, ?_⟩, ?_⟩
          · have h1 := hbk5.put 1 (.slice (some ⟨g5, 0, none⟩) (n2 + 1) cap5)
            show Bk _ bF 26 #[.slice A1 cs.length c1, .slice (some ⟨g5, 0, none⟩) (ss ++ [R]).length cap5, .slice A3 ns.length c3]
            rw [List.length_append, HN1.out, HN2.out, HN3.out]
            simpa using h1
          · have h2 := hpush.set (bF := bF) (o := 1) (u := .slice (some ⟨g5, 0, none⟩) (n2 + 1) cap5) hlt
            exact h2.low (Nat.le_refl _) (by rw [hsz]; exact Nat.le_refl _)
          · rw [hsz]; omega
          · rw [hsz]; exact Nat.le_refl _
          · exact (Apart.of_below (hBwr.mono (show base ≤ w.heap.size by omega))).trans hS
        · rw [if_pos (by rfl)]
          go_simp
          refine hK.out _ _ ?_ (fun hHeld2 => ?_)
          · (try dsimp only); exact S5.mk (by go_grown) (by omega)
          clear hK K hHeld; have hHeld := hHeld2; clear hHeld2; (try simp only [Act.put, List.setIfInBounds_toArray, List.set_cons_zero, List.set_cons_succ])
          refine wpAnyH_ready (rs := [4]) (by kernel_rfl) (by simp) ?_
          refine AllReadyH.cons rfl (fun K hK => ?_) AllReadyH.nil
          rw [if_pos (by rfl)]
          go_simp
          refine hK.out _ _ ?_ (fun hHeld2 => ?_)
          · (try dsimp only); exact hHeld
          clear hK K hHeld; have hHeld := hHeld2; clear hHeld2; (try simp only [Act.put, List.setIfInBounds_toArray, List.set_cons_zero, List.set_cons_succ])
          refine wpAnyH_ready (rs := [7]) (by kernel_rfl) (by simp) ?_
          refine AllReadyH.cons rfl (fun K hK => ?_) AllReadyH.nil
          refine step_push elem_rows (by rfl) (.tmp 82) (.tmp 84) 23 (by rfl) Tryz.underlying23 0 v2 ss R (by rfl) (HOW.out.alloc _) n2 HN2.out wr.heap.size 1 (by rfl) (fun i u hu => ((Bk.new wr #[.slice R.A (0) R.c] 93).cell i).trans (by have h1 := HRV.out; unfold hdC at hu; rw [h1] at hu; simpa using hu)) (by unfold maxLen; omega) (by omega) (by simp only [World.size_drew, World.size_alloc]; omega) ?_
          intro g5 cap5 w5 hown5 hgrow5 hat5 hlt5 hkeep5
          have hz5 := hgrow5.size
          simp only [World.size_drew, World.size_alloc] at hz5
          have hbk5 : Bk w5 bF 26 #[.slice A1 n1 c1, v2, .slice A3 n3 c3] := (hgrow5.block _ (by simp only [World.size_drew, World.size_alloc]; omega) (fun e => by have h2 := HI.out _ e.symm; omega)).trans (HBV.out.alloc _)
          have e5' := hbk5.cell 1
          have f5 := hbk5.frozen 1
          have hgl5 := hbk5.lt
          refine hK.out _ _ ?_ (fun hHeld2 => ?_)
          · (try dsimp only); exact S5.push hHeld hgrow5 (fun k hk => (HI.out k hk).1) (by simp only [World.size_drew, World.size_alloc]; omega)
          clear hK K hHeld; have hHeld := hHeld2; clear hHeld2; (try simp only [Act.put, List.setIfInBounds_toArray, List.set_cons_zero, List.set_cons_succ])
          first | (refine take_on (i := 8) (v := ?_) rfl (by kernel_rfl) (by kernel_rfl) (by kernel_rfl) (fun _ _ _ h => h) rfl ?_ (by assumption) ?_; rotate_left; · (intro w' hSw; (try dsimp only at hSw); go_simp; (try with_reducible rfl))) | (refine take_off (i := 8) rfl (by kernel_rfl) (by kernel_rfl) (by kernel_rfl) (fun _ _ _ h => h) rfl (by assumption) ?_)
          (try simp only [Act.put, List.setIfInBounds_toArray, List.set_cons_zero, List.set_cons_succ])
          first | (refine take_on (i := 9) (v := ?_) rfl (by kernel_rfl) (by kernel_rfl) (by kernel_rfl) (fun _ _ _ h => h) rfl ?_ (by assumption) ?_; rotate_left; · (intro w' hSw; (try dsimp only at hSw); go_simp; (try with_reducible rfl))) | (refine take_off (i := 9) rfl (by kernel_rfl) (by kernel_rfl) (by kernel_rfl) (fun _ _ _ h => h) rfl (by assumption) ?_)
          (try simp only [Act.put, List.setIfInBounds_toArray, List.set_cons_zero, List.set_cons_succ])
          refine wpAnyH_ready (rs := [10]) (by kernel_rfl) (by simp) ?_
          refine AllReadyH.cons rfl (fun K hK => ?_) AllReadyH.nil
          rw [if_pos (by rfl)]
          go_simp
          refine hK.out _ _ ?_ (fun hHeld2 => ?_)
          · (try dsimp only); exact S5.storeo 1 hHeld _
          clear hK K hHeld; have hHeld := hHeld2; clear hHeld2; (try simp only [Act.put, List.setIfInBounds_toArray, List.set_cons_zero, List.set_cons_succ])
          refine wpAnyH_done (by kernel_rfl) ?_ _
          have hS := hHeld.2.2
          clear hHeld
          go_wp2_with fail
          go_ret
          have hg5 := hgrow5
          rw [← HV.out] at hg5
          have ha5 := hat5
          rw [← HV.out] at ha5
          have hpush := FileMine.pushSt (g := g5) (cap := cap5) (B := 0) (wi := wr) (a := R) HMI5.out HMR.out (by omega) hlo (by go_grown) hg5 ha5 hlt5 (by rw [HN2.out]; exact hown5)
          have hsz : (w5.setCell ⟨bF, 1, none⟩ (.slice (some ⟨g5, 0, none⟩) (n2 + 1) cap5)).heap.size = w5.heap.size := by simp [World.setCell]
          refine ⟨⟨⟨A1, c1, cs⟩, ⟨some ⟨g5, 0, none⟩, cap5, ss ++ [R]⟩, ⟨A3, c3, ns⟩⟩, rfl, file_pushSt HP.out HRALL.out, ⟨?_, ?_, hlt, ?_, ?_⟩, ?_⟩
          · have h1 := hbk5.put 1 (.slice (some ⟨g5, 0, none⟩) (n2 + 1) cap5)
            show Bk _ bF 26 #[.slice A1 cs.length c1, .slice (some ⟨g5, 0, none⟩) (ss ++ [R]).length cap5, .slice A3 ns.length c3]
            rw [List.length_append, HN1.out, HN2.out, HN3.out]
            simpa using h1
          · have h2 := hpush.set (bF := bF) (o := 1) (u := .slice (some ⟨g5, 0, none⟩) (n2 + 1) cap5) hlt
            exact h2.low (Nat.le_refl _) (by rw [hsz]; exact Nat.le_refl _)
          · rw [hsz]; omega
          · rw [hsz]; exact Nat.le_refl _
          · exact (Apart.of_below (hBwr.mono (show base ≤ w.heap.size by omega))).trans hS
  · have hq1 : (0 : Int) ≤ (nt : Int) := by omega
    go_enter Tryz.func20, Tryz.ntmps20
    go_wp2_with fail
    clear y0
    go_loopw [66] (fun i wr => ∃ (j : Nat) (R : Sl (Sl Int)), j ≤ nt + 1 ∧ i = .int .i64 (j : Int) ∧ Bk wr w.heap.size 93 #[.slice R.A j R.c] ∧ Hid (R.l.length = j) ∧ Hid (rowsK.pl R = ((T.map fun x => x.data.toList).take j).map numsD) ∧ Hid (Mine rowsK wr (w.heap.size + 1) wr.heap.size R) ∧ Below w.heap.size (w.alloc (.cells #[.slice none 0 0] 93)) wr) (fun i _ => nt + 1 - (intOf i).toNat)
    case atStart => exact ⟨0, ⟨none, 0, []⟩, Nat.zero_le _, rfl, hI0.out, rfl, rfl, Mine.nil rowK 93 _ _ _, Below.refl _ _⟩
    case round =>
      obtain ⟨j, R, hj, rfl, hbk2, hRL, hRP, hMR, hB2⟩ := hrel
      have HRL := hRL
      have HRP := hRP
      have HMR := hMR
      have hBs := hB2.size
      simp only [World.size_alloc] at hBs
      have hBwr : Below w.heap.size w wr := ((Below.refl _ _).alloc (Nat.le_refl _) _).trans hB2
      obtain ⟨e0, f0⟩ := bk1 hbk2
      have hgl2 := hbk2.lt
      by_cases hjlt : j < nt + 1
      · have jT : j < T.length := by rw [HNT.out]; exact hjlt
        have hjM : j < (T.map fun x => x.data.toList).length := by rw [List.length_map]; exact jT
        obtain ⟨y, hy⟩ : ∃ y, T[j] = y := ⟨_, rfl⟩
        have hys := HTS.out _ (List.getElem_mem jT)
        rw [hy] at hys
        have HTM : Hid (numsD y.data.toList = numsD (T.map fun x => x.data.toList)[j]) := by rw [Hid, List.getElem_map, hy]
        have a0 := HRD.out.get (by simp [HNT.out]) (j := j + 1) (by simp; omega)
        rw [List.getElem_cons_succ, hy] at a0
        have a1 : wr.cell? ⟨gw, 1 + j, none⟩ = some (.string y) := by rw [Nat.add_comm]; exact (hBwr.cell (p := ⟨gw, j + 1, none⟩) hgl).trans a0
        have hglr : gw < wr.heap.size := Nat.lt_of_lt_of_le hgl hBwr.size
        obtain ⟨Ry, hRy⟩ : ∃ R, numsD y.data.toList = R := ⟨_, rfl⟩
        obtain ⟨ny, hny⟩ : ∃ n, Ry.length = n := ⟨_, rfl⟩
        have HRy := Lib.hid hRy
        have HNy := Lib.hid hny
        obtain ⟨vr, hvr⟩ : ∃ v, Value.slice R.A j R.c = v := ⟨_, rfl⟩
        have HRVV : Hid (R.val = vr) := by rw [Hid, ← hvr, ← HRL.out]; rfl
        have HIR : Hid (∀ b, vr.ownBlock = some b → w.heap.size + 1 ≤ b ∧ b < wr.heap.size) := fun b hb => HMR.out.rng b (Kd.fp_top (s := R) (by rw [HRVV.out]; exact hb))
        rw [hvr] at hbk2 e0
        have hj0 : (0 : Int) ≤ (j : Int) := by omega
        have hjn : (j : Int) < (nt : Int) + 1 := by omega
        clear a0 hy hRy hny hvr
        go_wp2_with fail
        refine wp_region_held_drew (S := (fun w' => (∀ kb ko, kb < wr.heap.size → ¬ vr.ownBlock = some kb → ¬ kb = w.heap.size → w'.cell? ⟨kb, ko, none⟩ = wr.cell? ⟨kb, ko, none⟩) ∧ wr.heap.size ≤ w'.heap.size ∧ Below w.heap.size wr w')) (by kernel_rfl) ?_ (fun hHeld => ?_)
        · (try dsimp only); exact S2.mk ((Below.refl _ _).drew) (by omega)
        first | (refine take_on (i := 0) (v := ?_) rfl (by kernel_rfl) (by kernel_rfl) (by kernel_rfl) (fun _ _ _ h => h) rfl ?_ (by assumption) ?_; rotate_left; · (intro w' hSw; (try dsimp only at hSw); go_simp; (try with_reducible rfl))) | (refine take_off (i := 0) rfl (by kernel_rfl) (by kernel_rfl) (by kernel_rfl) (fun _ _ _ h => h) rfl (by assumption) ?_)
        (try simp only [Act.put, List.setIfInBounds_toArray, List.set_cons_zero, List.set_cons_succ])
        first | (refine take_on (i := 2) (v := ?_) rfl (by kernel_rfl) (by kernel_rfl) (by kernel_rfl) (fun _ _ _ h => h) rfl ?_ (by assumption) ?_; rotate_left; · (intro w' hSw; (try dsimp only at hSw); go_simp; (try with_reducible rfl))) | (refine take_off (i := 2) rfl (by kernel_rfl) (by kernel_rfl) (by kernel_rfl) (fun _ _ _ h => h) rfl (by assumption) ?_)
        (try simp only [Act.put, List.setIfInBounds_toArray, List.set_cons_zero, List.set_cons_succ])
        refine wpAnyH_ready (rs := [1, 3]) (by kernel_rfl) (by simp) ?_
        refine AllReadyH.cons rfl (fun K hK => ?_) (AllReadyH.cons rfl (fun K hK => ?_) (AllReadyH.nil))
        · rw [if_pos (by rfl)]
          go_simp
          refine hK.out _ _ ?_ (fun hHeld2 => ?_)
          · (try dsimp only); exact hHeld
          clear hK K hHeld; have hHeld := hHeld2; clear hHeld2; (try simp only [Act.put, List.setIfInBounds_toArray, List.set_cons_zero, List.set_cons_succ])
          refine wpAnyH_ready (rs := [3]) (by kernel_rfl) (by simp) ?_
          refine AllReadyH.cons rfl (fun K hK => ?_) AllReadyH.nil
          rw [if_pos (by rfl)]
          go_simp
          go_at_call 34
          refine (numbersOf_any y ny Ry _ HRy HNy hys (HM.out.below (by have h9 := hBwr; go_grown)) (HT.out.below (by have h9 := hBwr; go_grown)) (HE.out.below (by have h9 := hBwr; go_grown))).mono ?_
          rintro e w4 ⟨A4, c4, rfl, hown4, hb4⟩
          (try simp only [World.size_drew] at hown4)
          have hB4 : Below wr.heap.size wr w4 := Below.next (by go_grown) hb4
          have hz4 := hB4.size
          have HM4 : Hid (Mine rowsK w4 (w.heap.size + 1) wr.heap.size R) := HMR.out.next rowsK_ok hB4
          have HO4 : Hid (Own hdC 58 1 w4 0 vr R.l) := by rw [← HRVV.out]; exact HM4.out.own.1
          have hbk4 : Bk w4 w.heap.size 93 #[vr] := hbk2.next hB4
          obtain ⟨e4, f4⟩ := bk1 hbk4
          have hgl4 := hbk4.lt
          obtain ⟨y9, hy9⟩ : ∃ t : Sl Int, t = ⟨A4, c4, Ry⟩ := ⟨_, rfl⟩
          have HYV : Hid (y9.val = .slice A4 ny c4) := by rw [Hid, hy9, ← HNy.out]; rfl
          have HYL : Hid (y9.l = Ry) := by rw [Hid, hy9]
          have HMY : Hid (Mine rowK w4 wr.heap.size w4.heap.size y9) := by rw [hy9]; exact Mine.of_own hown4 HNy.out
          clear hy9 hown4 hb4
          refine hK.out _ _ ?_ (fun hHeld2 => ?_)
          · (try dsimp only); exact S2.mk hB4 (by omega)
          clear hK K hHeld; have hHeld := hHeld2; clear hHeld2; (try simp only [Act.put, List.setIfInBounds_toArray, List.set_cons_zero, List.set_cons_succ])
          refine wpAnyH_ready (rs := [4]) (by kernel_rfl) (by simp) ?_
          refine AllReadyH.cons rfl (fun K hK => ?_) AllReadyH.nil
          rw [if_pos (by rfl)]
          go_simp
          refine hK.out _ _ ?_ (fun hHeld2 => ?_)
          · (try dsimp only); exact S2.mk (hB4.alloc (by omega) _) (by omega)
          clear hK K hHeld; have hHeld := hHeld2; clear hHeld2; (try simp only [Act.put, List.setIfInBounds_toArray, List.set_cons_zero, List.set_cons_succ])
          refine wpAnyH_ready (rs := [5]) (by kernel_rfl) (by simp) ?_
          refine AllReadyH.cons rfl (fun K hK => ?_) AllReadyH.nil
          refine step_push elem_row (by rfl) (.tmp 71) (.tmp 74) 91 (by rfl) Tryz.underlying91 0 vr R.l y9 (by rfl) (HO4.out.alloc _) j HRL.out w4.heap.size 1 (by rfl) (fun i u hu => ((Bk.new w4 #[.slice A4 ny c4] 58).cell i).trans (by have h1 := HYV.out; unfold hdC at hu; rw [h1] at hu; simpa using hu)) (by unfold maxLen; omega) (by omega) (by simp only [World.size_drew, World.size_alloc]; omega) ?_
          intro g5 cap5 w5 hown5 hgrow5 hat5 hlt5 hkeep5
          have hbk5 : Bk w5 w.heap.size 93 #[vr] := (hgrow5.block _ (by simp only [World.size_drew, World.size_alloc]; omega) (fun e => by have h2 := HIR.out _ e.symm; omega)).trans (hbk4.alloc _)
          obtain ⟨e5', f5⟩ := bk1 hbk5
          have hz5 := hgrow5.size
          simp only [World.size_drew, World.size_alloc] at hz5
          have hgl5 := hbk5.lt
          refine hK.out _ _ ?_ (fun hHeld2 => ?_)
          · (try dsimp only); exact S2.push hHeld hgrow5 (fun k hk => by have h2 := HIR.out k hk; omega) (by simp only [World.size_drew, World.size_alloc]; omega)
          clear hK K hHeld; have hHeld := hHeld2; clear hHeld2; (try simp only [Act.put, List.setIfInBounds_toArray, List.set_cons_zero, List.set_cons_succ])
          first | (refine take_on (i := 6) (v := ?_) rfl (by kernel_rfl) (by kernel_rfl) (by kernel_rfl) (fun _ _ _ h => h) rfl ?_ (by assumption) ?_; rotate_left; · (intro w' hSw; (try dsimp only at hSw); go_simp; (try with_reducible rfl))) | (refine take_off (i := 6) rfl (by kernel_rfl) (by kernel_rfl) (by kernel_rfl) (fun _ _ _ h => h) rfl (by assumption) ?_)
          (try simp only [Act.put, List.setIfInBounds_toArray, List.set_cons_zero, List.set_cons_succ])
          refine wpAnyH_ready (rs := [7]) (by kernel_rfl) (by simp) ?_
          refine AllReadyH.cons rfl (fun K hK => ?_) AllReadyH.nil
          rw [if_pos (by rfl)]
          go_simp
          refine hK.out _ _ ?_ (fun hHeld2 => ?_)
          · (try dsimp only); exact S2.store hHeld _
          clear hK K hHeld; have hHeld := hHeld2; clear hHeld2; (try simp only [Act.put, List.setIfInBounds_toArray, List.set_cons_zero, List.set_cons_succ])
          refine wpAnyH_done (by kernel_rfl) ?_ _
          have hS := hHeld.2.2
          clear hHeld
          go_wp2_with fail
          go_roundw
          case rel =>
            have hg5 := hgrow5
            rw [← HRVV.out] at hg5
            have ha5 := hat5
            rw [← HRVV.out] at ha5
            have hpush := Mine.push rowK_ok (T := 93) (g := g5) (cap := cap5) (B := 0) (wi := w4) HM4.out HMY.out (by omega) (by omega) (by go_grown) hg5 ha5 hlt5 (by rw [HRL.out]; exact hown5)
            have hfin := hpush.chg rowsK_ok (ChgF.setCell w5 w.heap.size 0 (.slice (some ⟨g5, 0, none⟩) (j + 1) cap5)) (fun b hb hm => by have := hpush.rng b hb; simp at hm; omega)
            refine ⟨j + 1, ⟨some ⟨g5, 0, none⟩, cap5, R.l ++ [y9]⟩, by omega, by go_num, bk1_put hbk5, by simp [Hid, HRL.out], rows_push hjM HRP.out (by rw [HYL.out, ← HRy.out, HTM.out]), ?_, hB2.trans hS⟩
            have hsz : (w5.setCell ⟨w.heap.size, 0, none⟩ (.slice (some ⟨g5, 0, none⟩) (j + 1) cap5)).heap.size = w5.heap.size := by simp [World.setCell]
            rw [Hid, hsz]; exact hfin
          case measure => (simp [intOf]; try omega)
        · rw [if_pos (by rfl)]
          go_simp
          go_at_call 34
          refine (numbersOf_any y ny Ry _ HRy HNy hys (HM.out.below (by have h9 := hBwr; go_grown)) (HT.out.below (by have h9 := hBwr; go_grown)) (HE.out.below (by have h9 := hBwr; go_grown))).mono ?_
          rintro e w4 ⟨A4, c4, rfl, hown4, hb4⟩
          (try simp only [World.size_drew] at hown4)
          have hB4 : Below wr.heap.size wr w4 := Below.next (by go_grown) hb4
          have hz4 := hB4.size
          have HM4 : Hid (Mine rowsK w4 (w.heap.size + 1) wr.heap.size R) := HMR.out.next rowsK_ok hB4
          have HO4 : Hid (Own hdC 58 1 w4 0 vr R.l) := by rw [← HRVV.out]; exact HM4.out.own.1
          have hbk4 : Bk w4 w.heap.size 93 #[vr] := hbk2.next hB4
          obtain ⟨e4, f4⟩ := bk1 hbk4
          have hgl4 := hbk4.lt
          obtain ⟨y9, hy9⟩ : ∃ t : Sl Int, t = ⟨A4, c4, Ry⟩ := ⟨_, rfl⟩
          have HYV : Hid (y9.val = .slice A4 ny c4) := by rw [Hid, hy9, ← HNy.out]; rfl
          have HYL : Hid (y9.l = Ry) := by rw [Hid, hy9]
          have HMY : Hid (Mine rowK w4 wr.heap.size w4.heap.size y9) := by rw [hy9]; exact Mine.of_own hown4 HNy.out
          clear hy9 hown4 hb4
          refine hK.out _ _ ?_ (fun hHeld2 => ?_)
          · (try dsimp only); exact S2.mk hB4 (by omega)
          clear hK K hHeld; have hHeld := hHeld2; clear hHeld2; (try simp only [Act.put, List.setIfInBounds_toArray, List.set_cons_zero, List.set_cons_succ])
          refine wpAnyH_ready (rs := [1, 4]) (by kernel_rfl) (by simp) ?_
          refine AllReadyH.cons rfl (fun K hK => ?_) (AllReadyH.cons rfl (fun K hK => ?_) (AllReadyH.nil))
          · rw [if_pos (by rfl)]
            go_simp
            refine hK.out _ _ ?_ (fun hHeld2 => ?_)
            · (try dsimp only); exact hHeld
            clear hK K hHeld; have hHeld := hHeld2; clear hHeld2; (try simp only [Act.put, List.setIfInBounds_toArray, List.set_cons_zero, List.set_cons_succ])
            refine wpAnyH_ready (rs := [4]) (by kernel_rfl) (by simp) ?_
            refine AllReadyH.cons rfl (fun K hK => ?_) AllReadyH.nil
            rw [if_pos (by rfl)]
            go_simp
            refine hK.out _ _ ?_ (fun hHeld2 => ?_)
            · (try dsimp only); exact S2.mk (hB4.alloc (by omega) _) (by omega)
            clear hK K hHeld; have hHeld := hHeld2; clear hHeld2; (try simp only [Act.put, List.setIfInBounds_toArray, List.set_cons_zero, List.set_cons_succ])
            refine wpAnyH_ready (rs := [5]) (by kernel_rfl) (by simp) ?_
            refine AllReadyH.cons rfl (fun K hK => ?_) AllReadyH.nil
            refine step_push elem_row (by rfl) (.tmp 71) (.tmp 74) 91 (by rfl) Tryz.underlying91 0 vr R.l y9 (by rfl) (HO4.out.alloc _) j HRL.out w4.heap.size 1 (by rfl) (fun i u hu => ((Bk.new w4 #[.slice A4 ny c4] 58).cell i).trans (by have h1 := HYV.out; unfold hdC at hu; rw [h1] at hu; simpa using hu)) (by unfold maxLen; omega) (by omega) (by simp only [World.size_drew, World.size_alloc]; omega) ?_
            intro g5 cap5 w5 hown5 hgrow5 hat5 hlt5 hkeep5
            have hbk5 : Bk w5 w.heap.size 93 #[vr] := (hgrow5.block _ (by simp only [World.size_drew, World.size_alloc]; omega) (fun e => by have h2 := HIR.out _ e.symm; omega)).trans (hbk4.alloc _)
            obtain ⟨e5', f5⟩ := bk1 hbk5
            have hz5 := hgrow5.size
            simp only [World.size_drew, World.size_alloc] at hz5
            have hgl5 := hbk5.lt
            refine hK.out _ _ ?_ (fun hHeld2 => ?_)
            · (try dsimp only); exact S2.push hHeld hgrow5 (fun k hk => by have h2 := HIR.out k hk; omega) (by simp only [World.size_drew, World.size_alloc]; omega)
            clear hK K hHeld; have hHeld := hHeld2; clear hHeld2; (try simp only [Act.put, List.setIfInBounds_toArray, List.set_cons_zero, List.set_cons_succ])
            first | (refine take_on (i := 6) (v := ?_) rfl (by kernel_rfl) (by kernel_rfl) (by kernel_rfl) (fun _ _ _ h => h) rfl ?_ (by assumption) ?_; rotate_left; · (intro w' hSw; (try dsimp only at hSw); go_simp; (try with_reducible rfl))) | (refine take_off (i := 6) rfl (by kernel_rfl) (by kernel_rfl) (by kernel_rfl) (fun _ _ _ h => h) rfl (by assumption) ?_)
            (try simp only [Act.put, List.setIfInBounds_toArray, List.set_cons_zero, List.set_cons_succ])
            refine wpAnyH_ready (rs := [7]) (by kernel_rfl) (by simp) ?_
            refine AllReadyH.cons rfl (fun K hK => ?_) AllReadyH.nil
            rw [if_pos (by rfl)]
            go_simp
            refine hK.out _ _ ?_ (fun hHeld2 => ?_)
            · (try dsimp only); exact S2.store hHeld _
            clear hK K hHeld; have hHeld := hHeld2; clear hHeld2; (try simp only [Act.put, List.setIfInBounds_toArray, List.set_cons_zero, List.set_cons_succ])
            refine wpAnyH_done (by kernel_rfl) ?_ _
            have hS := hHeld.2.2
            clear hHeld
            go_wp2_with fail
            go_roundw
            case rel =>
              have hg5 := hgrow5
              rw [← HRVV.out] at hg5
              have ha5 := hat5
              rw [← HRVV.out] at ha5
              have hpush := Mine.push rowK_ok (T := 93) (g := g5) (cap := cap5) (B := 0) (wi := w4) HM4.out HMY.out (by omega) (by omega) (by go_grown) hg5 ha5 hlt5 (by rw [HRL.out]; exact hown5)
              have hfin := hpush.chg rowsK_ok (ChgF.setCell w5 w.heap.size 0 (.slice (some ⟨g5, 0, none⟩) (j + 1) cap5)) (fun b hb hm => by have := hpush.rng b hb; simp at hm; omega)
              refine ⟨j + 1, ⟨some ⟨g5, 0, none⟩, cap5, R.l ++ [y9]⟩, by omega, by go_num, bk1_put hbk5, by simp [Hid, HRL.out], rows_push hjM HRP.out (by rw [HYL.out, ← HRy.out, HTM.out]), ?_, hB2.trans hS⟩
              have hsz : (w5.setCell ⟨w.heap.size, 0, none⟩ (.slice (some ⟨g5, 0, none⟩) (j + 1) cap5)).heap.size = w5.heap.size := by simp [World.setCell]
              rw [Hid, hsz]; exact hfin
            case measure => (simp [intOf]; try omega)
          · rw [if_pos (by rfl)]
            go_simp
            refine hK.out _ _ ?_ (fun hHeld2 => ?_)
            · (try dsimp only); exact S2.mk (hB4.alloc (by omega) _) (by omega)
            clear hK K hHeld; have hHeld := hHeld2; clear hHeld2; (try simp only [Act.put, List.setIfInBounds_toArray, List.set_cons_zero, List.set_cons_succ])
            refine wpAnyH_ready (rs := [1]) (by kernel_rfl) (by simp) ?_
            refine AllReadyH.cons rfl (fun K hK => ?_) AllReadyH.nil
            rw [if_pos (by rfl)]
            go_simp
            refine hK.out _ _ ?_ (fun hHeld2 => ?_)
            · (try dsimp only); exact hHeld
            clear hK K hHeld; have hHeld := hHeld2; clear hHeld2; (try simp only [Act.put, List.setIfInBounds_toArray, List.set_cons_zero, List.set_cons_succ])
            refine wpAnyH_ready (rs := [5]) (by kernel_rfl) (by simp) ?_
            refine AllReadyH.cons rfl (fun K hK => ?_) AllReadyH.nil
            refine step_push elem_row (by rfl) (.tmp 71) (.tmp 74) 91 (by rfl) Tryz.underlying91 0 vr R.l y9 (by rfl) (HO4.out.alloc _) j HRL.out w4.heap.size 1 (by rfl) (fun i u hu => ((Bk.new w4 #[.slice A4 ny c4] 58).cell i).trans (by have h1 := HYV.out; unfold hdC at hu; rw [h1] at hu; simpa using hu)) (by unfold maxLen; omega) (by omega) (by simp only [World.size_drew, World.size_alloc]; omega) ?_
            intro g5 cap5 w5 hown5 hgrow5 hat5 hlt5 hkeep5
            have hbk5 : Bk w5 w.heap.size 93 #[vr] := (hgrow5.block _ (by simp only [World.size_drew, World.size_alloc]; omega) (fun e => by have h2 := HIR.out _ e.symm; omega)).trans (hbk4.alloc _)
            obtain ⟨e5', f5⟩ := bk1 hbk5
            have hz5 := hgrow5.size
            simp only [World.size_drew, World.size_alloc] at hz5
            have hgl5 := hbk5.lt
            refine hK.out _ _ ?_ (fun hHeld2 => ?_)
            · (try dsimp only); exact S2.push hHeld hgrow5 (fun k hk => by have h2 := HIR.out k hk; omega) (by simp only [World.size_drew, World.size_alloc]; omega)
            clear hK K hHeld; have hHeld := hHeld2; clear hHeld2; (try simp only [Act.put, List.setIfInBounds_toArray, List.set_cons_zero, List.set_cons_succ])
            first | (refine take_on (i := 6) (v := ?_) rfl (by kernel_rfl) (by kernel_rfl) (by kernel_rfl) (fun _ _ _ h => h) rfl ?_ (by assumption) ?_; rotate_left; · (intro w' hSw; (try dsimp only at hSw); go_simp; (try with_reducible rfl))) | (refine take_off (i := 6) rfl (by kernel_rfl) (by kernel_rfl) (by kernel_rfl) (fun _ _ _ h => h) rfl (by assumption) ?_)
            (try simp only [Act.put, List.setIfInBounds_toArray, List.set_cons_zero, List.set_cons_succ])
            refine wpAnyH_ready (rs := [7]) (by kernel_rfl) (by simp) ?_
            refine AllReadyH.cons rfl (fun K hK => ?_) AllReadyH.nil
            rw [if_pos (by rfl)]
            go_simp
            refine hK.out _ _ ?_ (fun hHeld2 => ?_)
            · (try dsimp only); exact S2.store hHeld _
            clear hK K hHeld; have hHeld := hHeld2; clear hHeld2; (try simp only [Act.put, List.setIfInBounds_toArray, List.set_cons_zero, List.set_cons_succ])
            refine wpAnyH_done (by kernel_rfl) ?_ _
            have hS := hHeld.2.2
            clear hHeld
            go_wp2_with fail
            go_roundw
            case rel =>
              have hg5 := hgrow5
              rw [← HRVV.out] at hg5
              have ha5 := hat5
              rw [← HRVV.out] at ha5
              have hpush := Mine.push rowK_ok (T := 93) (g := g5) (cap := cap5) (B := 0) (wi := w4) HM4.out HMY.out (by omega) (by omega) (by go_grown) hg5 ha5 hlt5 (by rw [HRL.out]; exact hown5)
              have hfin := hpush.chg rowsK_ok (ChgF.setCell w5 w.heap.size 0 (.slice (some ⟨g5, 0, none⟩) (j + 1) cap5)) (fun b hb hm => by have := hpush.rng b hb; simp at hm; omega)
              refine ⟨j + 1, ⟨some ⟨g5, 0, none⟩, cap5, R.l ++ [y9]⟩, by omega, by go_num, bk1_put hbk5, by simp [Hid, HRL.out], rows_push hjM HRP.out (by rw [HYL.out, ← HRy.out, HTM.out]), ?_, hB2.trans hS⟩
              have hsz : (w5.setCell ⟨w.heap.size, 0, none⟩ (.slice (some ⟨g5, 0, none⟩) (j + 1) cap5)).heap.size = w5.heap.size := by simp [World.setCell]
              rw [Hid, hsz]; exact hfin
            case measure => (simp [intOf]; try omega)
      · obtain rfl : j = nt + 1 := by omega
        have HRALL : Hid (rowsK.pl R = T.map fun x => numsD x.data.toList) := by
          have h1 := HRP.out
          rw [List.take_of_length_le (by rw [List.length_map, HNT.out]; exact Nat.le_refl _), List.map_map] at h1
          exact h1
        have HRV : Hid (R.val = .slice R.A (nt + 1) R.c) := by rw [Hid, ← HRL.out]; rfl
        have hbkwr := HBK.out.next hBwr
        have hbl4 := hbkwr.lt
        have HMI5 : Hid (FileMine wr base hi ⟨⟨A1, c1, cs⟩, ⟨A2, c2, ss⟩, ⟨A3, c3, ns⟩⟩) := HMI.out.next hBwr
        have HMR2 : Hid (Mine rowsK wr hi wr.heap.size R) := HMR.out.low (by omega) (Nat.le_refl _)
        clear hMR HMR
        have HMR := HMR2
        have hn9 : ¬ w.heap.size = bF := by omega
        obtain ⟨v2, hv2⟩ : ∃ v, Value.slice A2 n2 c2 = v := ⟨_, rfl⟩
        have hvv : Value.slice A2 ss.length c2 = v2 := by rw [← hv2, HN2.out]
        have HI : Hid (∀ k, v2.ownBlock = some k → base ≤ k ∧ k < hi) := fun k hk => HMI.out.st.rng k (Kd.fp_top (s := ⟨A2, c2, ss⟩) (by rw [← hvv] at hk; exact hk))
        have HOW : Hid (Own hdC 93 1 wr 0 v2 ss) := by rw [← hvv]; exact (HMI.out.next hBwr).st.own.1
        have HV := Lib.hid hvv
        have hbkv : Bk wr bF 26 #[.slice A1 n1 c1, v2, .slice A3 n3 c3] := by rw [← hv2]; exact hbkwr
        have HBV := Lib.hid hbkv
        have cb : wr.cell? ⟨bF, 1, none⟩ = some v2 := hbkv.cell 1
        have fb : wr.frozen? ⟨bF, 1, none⟩ = false := hbkv.frozen 1
        have hu4 : ¬ v2.ownBlock = some gw := fun e => by have h2 := HI.out _ e; omega
        clear hvv hbkv hv2
        have hu9 : ¬ v2.ownBlock = some w.heap.size := fun e => by have h2 := HI.out _ e; omega
        go_wp2_with fail
        refine wp_region_held_drew (S := (fun w' => (∀ kb ko, kb < wr.heap.size → ¬ v2.ownBlock = some kb → ¬ kb = bF → w'.cell? ⟨kb, ko, none⟩ = wr.cell? ⟨kb, ko, none⟩) ∧ wr.heap.size ≤ w'.heap.size ∧ Apart bF base wr w')) (by kernel_rfl) ?_ (fun hHeld => ?_)
        · (try dsimp only); exact S5.mk ((Below.refl _ _).drew) (by omega)
        first | (refine take_on (i := 0) (v := ?_) rfl (by kernel_rfl) (by kernel_rfl) (by kernel_rfl) (fun _ _ _ h => h) rfl ?_ (by assumption) ?_; rotate_left; · (intro w' hSw; (try dsimp only at hSw); go_simp; (try with_reducible rfl))) | (refine take_off (i := 0) rfl (by kernel_rfl) (by kernel_rfl) (by kernel_rfl) (fun _ _ _ h => h) rfl (by assumption) ?_)
        (try simp only [Act.put, List.setIfInBounds_toArray, List.set_cons_zero, List.set_cons_succ])
        first | (refine take_on (i := 1) (v := ?_) rfl (by kernel_rfl) (by kernel_rfl) (by kernel_rfl) (fun _ _ _ h => h) rfl ?_ (by assumption) ?_; rotate_left; · (intro w' hSw; (try dsimp only at hSw); go_simp; (try with_reducible rfl))) | (refine take_off (i := 1) rfl (by kernel_rfl) (by kernel_rfl) (by kernel_rfl) (fun _ _ _ h => h) rfl (by assumption) ?_)
        (try simp only [Act.put, List.setIfInBounds_toArray, List.set_cons_zero, List.set_cons_succ])
        first | (refine take_on (i := 2) (v := ?_) rfl (by kernel_rfl) (by kernel_rfl) (by kernel_rfl) (fun _ _ _ h => h) rfl ?_ (by assumption) ?_; rotate_left; · (intro w' hSw; (try dsimp only at hSw); go_simp; (try with_reducible rfl))) | (refine take_off (i := 2) rfl (by kernel_rfl) (by kernel_rfl) (by kernel_rfl) (fun _ _ _ h => h) rfl (by assumption) ?_)
        (try simp only [Act.put, List.setIfInBounds_toArray, List.set_cons_zero, List.set_cons_succ])
        first | (refine take_on (i := 3) (v := ?_) rfl (by kernel_rfl) (by kernel_rfl) (by kernel_rfl) (fun _ _ _ h => h) rfl ?_ (by assumption) ?_; rotate_left; · (intro w' hSw; (try dsimp only at hSw); go_simp; (try with_reducible rfl))) | (refine take_off (i := 3) rfl (by kernel_rfl) (by kernel_rfl) (by kernel_rfl) (fun _ _ _ h => h) rfl (by assumption) ?_)
        (try simp only [Act.put, List.setIfInBounds_toArray, List.set_cons_zero, List.set_cons_succ])
        first | (refine take_on (i := 5) (v := ?_) rfl (by kernel_rfl) (by kernel_rfl) (by kernel_rfl) (fun _ _ _ h => h) rfl ?_ (by assumption) ?_; rotate_left; · (intro w' hSw; (try dsimp only at hSw); go_simp; (try with_reducible rfl))) | (refine take_off (i := 5) rfl (by kernel_rfl) (by kernel_rfl) (by kernel_rfl) (fun _ _ _ h => h) rfl (by assumption) ?_)
        (try simp only [Act.put, List.setIfInBounds_toArray, List.set_cons_zero, List.set_cons_succ])
        refine wpAnyH_ready (rs := [4, 6]) (by kernel_rfl) (by simp) ?_
        refine AllReadyH.cons rfl (fun K hK => ?_) (AllReadyH.cons rfl (fun K hK => ?_) (AllReadyH.nil))
        · rw [if_pos (by rfl)]
          go_simp
          refine hK.out _ _ ?_ (fun hHeld2 => ?_)
          · (try dsimp only); exact hHeld
          clear hK K hHeld; have hHeld := hHeld2; clear hHeld2; (try simp only [Act.put, List.setIfInBounds_toArray, List.set_cons_zero, List.set_cons_succ])
          refine wpAnyH_ready (rs := [6]) (by kernel_rfl) (by simp) ?_
          refine AllReadyH.cons rfl (fun K hK => ?_) AllReadyH.nil
          rw [if_pos (by rfl)]
          go_simp
          refine hK.out _ _ ?_ (fun hHeld2 => ?_)
          · (try dsimp only); exact S5.mk (by go_grown) (by omega)
          clear hK K hHeld; have hHeld := hHeld2; clear hHeld2; (try simp only [Act.put, List.setIfInBounds_toArray, List.set_cons_zero, List.set_cons_succ])
          refine wpAnyH_ready (rs := [7]) (by kernel_rfl) (by simp) ?_
          refine AllReadyH.cons rfl (fun K hK => ?_) AllReadyH.nil
          refine step_push elem_rows (by rfl) (.tmp 82) (.tmp 84) 23 (by rfl) Tryz.underlying23 0 v2 ss R (by rfl) (HOW.out.alloc _) n2 HN2.out wr.heap.size 1 (by rfl) (fun i u hu => ((Bk.new wr #[.slice R.A (nt + 1) R.c] 93).cell i).trans (by have h1 := HRV.out; unfold hdC at hu; rw [h1] at hu; simpa using hu)) (by unfold maxLen; omega) (by omega) (by simp only [World.size_drew, World.size_alloc]; omega) ?_
          intro g5 cap5 w5 hown5 hgrow5 hat5 hlt5 hkeep5
          have hz5 := hgrow5.size
          simp only [World.size_drew, World.size_alloc] at hz5
          have hbk5 : Bk w5 bF 26 #[.slice A1 n1 c1, v2, .slice A3 n3 c3] := (hgrow5.block _ (by simp only [World.size_drew, World.size_alloc]; omega) (fun e => by have h2 := HI.out _ e.symm; omega)).trans (HBV.out.alloc _)
          have e5' := hbk5.cell 1
          have f5 := hbk5.frozen 1
          have hgl5 := hbk5.lt
          refine hK.out _ _ ?_ (fun hHeld2 => ?_)
          · (try dsimp only); exact S5.push hHeld hgrow5 (fun k hk => (HI.out k hk).1) (by simp only [World.size_drew, World.size_alloc]; omega)
          clear hK K hHeld; have hHeld := hHeld2; clear hHeld2; (try simp only [Act.put, List.setIfInBounds_toArray, List.set_cons_zero, List.set_cons_succ])
          first | (refine take_on (i := 8) (v := ?_) rfl (by kernel_rfl) (by kernel_rfl) (by kernel_rfl) (fun _ _ _ h => h) rfl ?_ (by assumption) ?_; rotate_left; · (intro w' hSw; (try dsimp only at hSw); go_simp; (try with_reducible rfl))) | (refine take_off (i := 8) rfl (by kernel_rfl) (by kernel_rfl) (by kernel_rfl) (fun _ _ _ h => h) rfl (by assumption) ?_)
          (try simp only [Act.put, List.setIfInBounds_toArray, List.set_cons_zero, List.set_cons_succ])
          first | (refine take_on (i := 9) (v := ?_) rfl (by kernel_rfl) (by kernel_rfl) (by kernel_rfl) (fun _ _ _ h => h) rfl ?_ (by assumption) ?_; rotate_left; · (intro w' hSw; (try dsimp only at hSw); go_simp; (try with_reducible rfl))) | (refine take_off (i := 9) rfl (by kernel_rfl) (by kernel_rfl) (by kernel_rfl) (fun _ _ _ h => h) rfl (by assumption) ?_)
          (try simp only [Act.put, List.setIfInBounds_toArray, List.set_cons_zero, List.set_cons_succ])
          refine wpAnyH_ready (rs := [10]) (by kernel_rfl) (by simp) ?_
          refine AllReadyH.cons rfl (fun K hK => ?_) AllReadyH.nil
          rw [if_pos (by rfl)]
          go_simp
          refine hK.out _ _ ?_ (fun hHeld2 => ?_)
          · (try dsimp only); exact S5.storeo 1 hHeld _
          clear hK K hHeld; have hHeld := hHeld2; clear hHeld2; (try simp only [Act.put, List.setIfInBounds_toArray, List.set_cons_zero, List.set_cons_succ])
          refine wpAnyH_done (by kernel_rfl) ?_ _
          have hS := hHeld.2.2
          clear hHeld
          go_wp2_with fail
          go_ret
          have hg5 := hgrow5
          rw [← HV.out] at hg5
          have ha5 := hat5
          rw [← HV.out] at ha5
          have hpush := FileMine.pushSt (g := g5) (cap := cap5) (B := 0) (wi := wr) (a := R) HMI5.out HMR.out (by omega) hlo (by go_grown) hg5 ha5 hlt5 (by rw [HN2.out]; exact hown5)
          have hsz : (w5.setCell ⟨bF, 1, none⟩ (.slice (some ⟨g5, 0, none⟩) (n2 + 1) cap5)).heap.size = w5.heap.size := by simp [World.setCell]
          refine ⟨⟨⟨A1, c1, cs⟩, ⟨some ⟨g5, 0, none⟩, cap5, ss ++ [R]⟩, ⟨A3, c3, ns⟩⟩, rfl, file_pushSt HP.out HRALL.out, ⟨?_, ?_, hlt, ?_, ?_⟩, ?_⟩
          · have h1 := hbk5.put 1 (.slice (some ⟨g5, 0, none⟩) (n2 + 1) cap5)
            show Bk _ bF 26 #[.slice A1 cs.length c1, .slice (some ⟨g5, 0, none⟩) (ss ++ [R]).length cap5, .slice A3 ns.length c3]
            rw [List.length_append, HN1.out, HN2.out, HN3.out]
            simpa using h1
          · have h2 := hpush.set (bF := bF) (o := 1) (u := .slice (some ⟨g5, 0, none⟩) (n2 + 1) cap5) hlt
            exact h2.low (Nat.le_refl _) (by rw [hsz]; exact Nat.le_refl _)
          · rw [hsz]; omega
          · rw [hsz]; exact Nat.le_refl _
          · exact (Apart.of_below (hBwr.mono (show base ≤ w.heap.size by omega))).trans hS
        · rw [if_pos (by rfl)]
          go_simp
          refine hK.out _ _ ?_ (fun hHeld2 => ?_)
          · (try dsimp only); exact S5.mk (by go_grown) (by omega)
          clear hK K hHeld; have hHeld := hHeld2; clear hHeld2; (try simp only [Act.put, List.setIfInBounds_toArray, List.set_cons_zero, List.set_cons_succ])
          refine wpAnyH_ready (rs := [4]) (by kernel_rfl) (by simp) ?_
          refine AllReadyH.cons rfl (fun K hK => ?_) AllReadyH.nil
          rw [if_pos (by rfl)]
          go_simp
          refine hK.out _ _ ?_ (fun hHeld2 => ?_)
          · (try dsimp only); exact hHeld
          clear hK K hHeld; have hHeld := hHeld2; clear hHeld2; (try simp only [Act.put, List.setIfInBounds_toArray, List.set_cons_zero, List.set_cons_succ])
          refine wpAnyH_ready (rs := [7]) (by kernel_rfl) (by simp) ?_
          refine AllReadyH.cons rfl (fun K hK => ?_) AllReadyH.nil
          refine step_push elem_rows (by rfl) (.tmp 82) (.tmp 84) 23 (by rfl) Tryz.underlying23 0 v2 ss R (by rfl) (HOW.out.alloc _) n2 HN2.out wr.heap.size 1 (by rfl) (fun i u hu => ((Bk.new wr #[.slice R.A (nt + 1) R.c] 93).cell i).trans (by have h1 := HRV.out; unfold hdC at hu; rw [h1] at hu; simpa using hu)) (by unfold maxLen; omega) (by omega) (by simp only [World.size_drew, World.size_alloc]; omega) ?_
          intro g5 cap5 w5 hown5 hgrow5 hat5 hlt5 hkeep5
          have hz5 := hgrow5.size
          simp only [World.size_drew, World.size_alloc] at hz5
          have hbk5 : Bk w5 bF 26 #[.slice A1 n1 c1, v2, .slice A3 n3 c3] := (hgrow5.block _ (by simp only [World.size_drew, World.size_alloc]; omega) (fun e => by have h2 := HI.out _ e.symm; omega)).trans (HBV.out.alloc _)
          have e5' := hbk5.cell 1
          have f5 := hbk5.frozen 1
          have hgl5 := hbk5.lt
          refine hK.out _ _ ?_ (fun hHeld2 => ?_)
          · (try dsimp only); exact S5.push hHeld hgrow5 (fun k hk => (HI.out k hk).1) (by simp only [World.size_drew, World.size_alloc]; omega)
          clear hK K hHeld; have hHeld := hHeld2; clear hHeld2; (try simp only [Act.put, List.setIfInBounds_toArray, List.set_cons_zero, List.set_cons_succ])
          first | (refine take_on (i := 8) (v := ?_) rfl (by kernel_rfl) (by kernel_rfl) (by kernel_rfl) (fun _ _ _ h => h) rfl ?_ (by assumption) ?_; rotate_left; · (intro w' hSw; (try dsimp only at hSw); go_simp; (try with_reducible rfl))) | (refine take_off (i := 8) rfl (by kernel_rfl) (by kernel_rfl) (by kernel_rfl) (fun _ _ _ h => h) rfl (by assumption) ?_)
          (try simp only [Act.put, List.setIfInBounds_toArray, List.set_cons_zero, List.set_cons_succ])
          first | (refine take_on (i := 9) (v := ?_) rfl (by kernel_rfl) (by kernel_rfl) (by kernel_rfl) (fun _ _ _ h => h) rfl ?_ (by assumption) ?_; rotate_left; · (intro w' hSw; (try dsimp only at hSw); go_simp; (try with_reducible rfl))) | (refine take_off (i := 9) rfl (by kernel_rfl) (by kernel_rfl) (by kernel_rfl) (fun _ _ _ h => h) rfl (by assumption) ?_)
          (try simp only [Act.put, List.setIfInBounds_toArray, List.set_cons_zero, List.set_cons_succ])
          refine wpAnyH_ready (rs := [10]) (by kernel_rfl) (by simp) ?_
          refine AllReadyH.cons rfl (fun K hK => ?_) AllReadyH.nil
          rw [if_pos (by rfl)]
          go_simp
          refine hK.out _ _ ?_ (fun hHeld2 => ?_)
          · (try dsimp only); exact S5.storeo 1 hHeld _
          clear hK K hHeld; have hHeld := hHeld2; clear hHeld2; (try simp only [Act.put, List.setIfInBounds_toArray, List.set_cons_zero, List.set_cons_succ])
          refine wpAnyH_done (by kernel_rfl) ?_ _
          have hS := hHeld.2.2
          clear hHeld
          go_wp2_with fail
          go_ret
          have hg5 := hgrow5
          rw [← HV.out] at hg5
          have ha5 := hat5
          rw [← HV.out] at ha5
          have hpush := FileMine.pushSt (g := g5) (cap := cap5) (B := 0) (wi := wr) (a := R) HMI5.out HMR.out (by omega) hlo (by go_grown) hg5 ha5 hlt5 (by rw [HN2.out]; exact hown5)
          have hsz : (w5.setCell ⟨bF, 1, none⟩ (.slice (some ⟨g5, 0, none⟩) (n2 + 1) cap5)).heap.size = w5.heap.size := by simp [World.setCell]
          refine ⟨⟨⟨A1, c1, cs⟩, ⟨some ⟨g5, 0, none⟩, cap5, ss ++ [R]⟩, ⟨A3, c3, ns⟩⟩, rfl, file_pushSt HP.out HRALL.out, ⟨?_, ?_, hlt, ?_, ?_⟩, ?_⟩
          · have h1 := hbk5.put 1 (.slice (some ⟨g5, 0, none⟩) (n2 + 1) cap5)
            show Bk _ bF 26 #[.slice A1 cs.length c1, .slice (some ⟨g5, 0, none⟩) (ss ++ [R]).length cap5, .slice A3 ns.length c3]
            rw [List.length_append, HN1.out, HN2.out, HN3.out]
            simpa using h1
          · have h2 := hpush.set (bF := bF) (o := 1) (u := .slice (some ⟨g5, 0, none⟩) (n2 + 1) cap5) hlt
            exact h2.low (Nat.le_refl _) (by rw [hsz]; exact Nat.le_refl _)
          · rw [hsz]; omega
          · rw [hsz]; exact Nat.le_refl _
          · exact (Apart.of_below (hBwr.mono (show base ≤ w.heap.size by omega))).trans hS
end Go.Proofs.YtmdmjnhebbhjbaaGreatDoor
namespace Go.Proofs.YtmdmjnhebbhjbaaGreatDoor
set_option linter.unusedSimpArgs false
set_option linter.unusedVariables false
set_option maxRecDepth 20000
open Go.RowKit
open Go.ChangeShapes Go.WideShapes Go.Deep Go.Joins

set_option maxHeartbeats 2000000 in
theorem rfl_none (bF base gw nt : Nat) (w : World) (x0 : ByteArray) (T : List ByteArray) (hnt : T.length = nt) (hntb : nt ≤ 1048576) (hrd : RdT w (some ⟨gw, 0, none⟩) (nt + 1) (x0 :: T)) (hgl : gw < w.heap.size) (v1 v3 : Bool) (e1 : (x0.toList == [99, 104, 97, 110, 110, 101, 108]) = v1) (h1 : v1 = true → ¬ nt = 4) (e2 : (x0.toList == [115, 116, 114, 111, 107, 101]) = false) (e3 : (x0.toList == [110, 111, 116, 101]) = v3) (h3 : v3 = true → ¬ nt = 3) :
    Calls Tryz.prog 20 #[.pointer (some ⟨bF, 0, none⟩), .slice (some ⟨gw, 0, none⟩) (nt + 1) (nt + 1)] w fun e w' => e = .returned (.bool false) ∧ Apart bF base w w' := by
  have y0 : w.cell? ⟨gw, 0, none⟩ = some (.string x0) := hrd.get (by simp [hnt]) (j := 0) (by simp)
  have hq1 : (0 : Int) ≤ (nt : Int) := by omega
  clear hrd hnt
  have g5 : Hid (¬ nt = 4 → ((nt : Int) + 1 == 5) = false) := fun h => beq_eq_false_iff_ne.2 (by omega)
  have g4 : Hid (¬ nt = 3 → ((nt : Int) + 1 == 4) = false) := fun h => beq_eq_false_iff_ne.2 (by omega)
  cases v1
  · cases v3
    · clear h1 h3
      go_enter Tryz.func20, Tryz.ntmps20
      go_wp2_with fail
      go_ret
      exact ⟨rfl, Apart.refl _ _ _⟩
    · have k4 := g4.out (h3 rfl)
      clear h1 h3
      go_enter Tryz.func20, Tryz.ntmps20
      go_wp2_with fail
      go_ret
      exact ⟨rfl, Apart.refl _ _ _⟩
  · have k5 := g5.out (h1 rfl)
    cases v3
    · clear h1 h3
      go_enter Tryz.func20, Tryz.ntmps20
      go_wp2_with fail
      go_ret
      exact ⟨rfl, Apart.refl _ _ _⟩
    · have k4 := g4.out (h3 rfl)
      clear h1 h3
      go_enter Tryz.func20, Tryz.ntmps20
      go_wp2_with fail
      go_ret
      exact ⟨rfl, Apart.refl _ _ _⟩
set_option maxHeartbeats 1000000 in
theorem readFileLine_any (bF base hi : Nat) (f : Fl) (p : FlP) (gw n : Nat) (W : List ByteArray) (o : Option FlP) (w : World) (hfa : FA w bF base hi f) (hp : filePl f = p) (hgw : hi ≤ gw) (hgl : gw < w.heap.size) (hcnt : f.ch.l.length ≤ 1048576 ∧ f.st.l.length ≤ 1048576 ∧ f.no.l.length ≤ 1048576) (hn : W.length = n) (hn1 : 1 ≤ n) (hnb : n ≤ 1048576) (hrd : RdT w (some ⟨gw, 0, none⟩) n W) (hts : ∀ x ∈ W, x.size ≤ 1048576) (hR : Hid (iLine p (W.map fun x => x.data.toList) = o)) (hm : MaxIs w) (ht : Tab10 w) (he : ErrIs w) :
    Calls Tryz.prog 20 #[.pointer (some ⟨bF, 0, none⟩), .slice (some ⟨gw, 0, none⟩) n n] w fun e w' => (o = none ∧ e = .returned (.bool false) ∧ Apart bF base w w') ∨ ∃ q, o = some q ∧ FaPost bF base q w e w' := by
  obtain ⟨⟨A1, c1, cs⟩, ⟨A2, c2, ss⟩, ⟨A3, c3, ns⟩⟩ := f
  obtain ⟨x0, T, rfl⟩ : ∃ x0 T, W = x0 :: T := by
    cases W with
    | nil => simp at hn; omega
    | cons a T => exact ⟨a, T, rfl⟩
  obtain ⟨nt, hnt⟩ : ∃ nt, T.length = nt := ⟨_, rfl⟩
  obtain rfl : nt + 1 = n := by rw [← hn, List.length_cons, hnt]
  have hR := hR.out
  have key : ∀ l : List UInt8, (x0.toList == l) = decide (x0.data.toList = l) := fun l => by
    rw [toList_data]
    by_cases h : x0.data.toList = l
    · rw [decide_eq_true h]; simpa using h
    · rw [decide_eq_false h]; simpa using h
  have hlen : (List.map (fun x => x.data.toList) (x0 :: T)).length = nt + 1 := by rw [List.length_map, List.length_cons, hnt]
  by_cases h1 : x0.data.toList = wCh
  · have e2 : (x0.toList == [115, 116, 114, 111, 107, 101]) = false := by rw [key, h1]; decide
    have e3 : (x0.toList == [110, 111, 116, 101]) = false := by rw [key, h1]; decide
    by_cases h5 : nt = 4
    · subst h5
      obtain ⟨x1, x2, x3, x4, rfl⟩ := len4 hnt
      have hq : iLine p ((x0 :: [x1, x2, x3, x4]).map fun x => x.data.toList) = some (addCh p ⟨x1, x2, (decR x3.data.toList).1, (decR x4.data.toList).1⟩) := by
        unfold iLine
        rw [if_pos ⟨h1, rfl⟩]
        rfl
      refine (rfl_ch bF base hi A1 A2 A3 c1 c2 c3 cs ss ns p gw w hfa hp hgw hgl hcnt x0 x1 x2 x3 x4 hrd (hts _ (by simp)) (hts _ (by simp)) (by rw [key]; exact decide_eq_true h1) e2 hm ht he).mono ?_
      intro e w' hpost
      exact .inr ⟨_, hR.symm.trans hq, hpost⟩
    · have hq : o = none := by
        rw [← hR]
        unfold iLine
        rw [if_neg (fun h => h5 (by have := h.2; rw [hlen] at this; omega)), if_neg (fun h => by have h' : x0.data.toList = wSt := h; rw [h1] at h'; exact absurd h' (by decide)), if_neg (fun h => by have h' : x0.data.toList = wNo := h.1; rw [h1] at h'; exact absurd h' (by decide))]
      refine (rfl_none bF base gw nt w x0 T hnt (by omega) hrd hgl true false (by rw [key]; exact decide_eq_true h1) (fun _ => h5) e2 e3 (by simp)).mono ?_
      rintro e w' ⟨he1, he2⟩
      exact .inl ⟨hq, he1, he2⟩
  · have e1 : (x0.toList == [99, 104, 97, 110, 110, 101, 108]) = false := by rw [key]; exact decide_eq_false h1
    by_cases h2 : x0.data.toList = wSt
    · have hq : iLine p ((x0 :: T).map fun x => x.data.toList) = some (addSt p (T.map fun x => numsD x.data.toList)) := by
        unfold iLine
        rw [if_neg (fun h => h1 h.1), if_pos (show ((x0 :: T).map fun x => x.data.toList).getD 0 [] = wSt from h2), List.map_cons, List.tail_cons, List.map_map]
        rfl
      refine (rfl_st bF base hi A1 A2 A3 c1 c2 c3 cs ss ns p gw w hfa hp hgw hgl hcnt nt x0 T hnt (by omega) hrd (fun x hx => hts x (List.mem_cons_of_mem _ hx)) e1 (by rw [key]; exact decide_eq_true h2) hm ht he).mono ?_
      intro e w' hpost
      exact .inr ⟨_, hR.symm.trans hq, hpost⟩
    · have e2 : (x0.toList == [115, 116, 114, 111, 107, 101]) = false := by rw [key]; exact decide_eq_false h2
      by_cases h3 : x0.data.toList = wNo
      · by_cases h4 : nt = 3
        · subst h4
          obtain ⟨x1, x2, x3, rfl⟩ := len3 hnt
          have hq : iLine p ((x0 :: [x1, x2, x3]).map fun x => x.data.toList) = some (addNo p ⟨(decR x1.data.toList).1, (decR x2.data.toList).1, x3⟩) := by
            unfold iLine
            rw [if_neg (fun h => h1 h.1), if_neg (show ¬ ((x0 :: [x1, x2, x3]).map fun x => x.data.toList).getD 0 [] = wSt from h2), if_pos ⟨h3, rfl⟩]
            rfl
          refine (rfl_no bF base hi A1 A2 A3 c1 c2 c3 cs ss ns p gw w hfa hp hgw hgl hcnt x0 x1 x2 x3 hrd (hts _ (by simp)) (hts _ (by simp)) e1 e2 (by rw [key]; exact decide_eq_true h3) hm ht he).mono ?_
          intro e w' hpost
          exact .inr ⟨_, hR.symm.trans hq, hpost⟩
        · have hq : o = none := by
            rw [← hR]
            unfold iLine
            rw [if_neg (fun h => h1 h.1), if_neg (show ¬ ((x0 :: T).map fun x => x.data.toList).getD 0 [] = wSt from h2), if_neg (fun h => h4 (by have := h.2; rw [hlen] at this; omega))]
          refine (rfl_none bF base gw nt w x0 T hnt (by omega) hrd hgl false true e1 (by simp) e2 (by rw [key]; exact decide_eq_true h3) (fun _ => h4)).mono ?_
          rintro e w' ⟨he1, he2⟩
          exact .inl ⟨hq, he1, he2⟩
      · have hq : o = none := by
          rw [← hR]
          unfold iLine
          rw [if_neg (fun h => h1 h.1), if_neg (show ¬ ((x0 :: T).map fun x => x.data.toList).getD 0 [] = wSt from h2), if_neg (fun h => h3 h.1)]
        refine (rfl_none bF base gw nt w x0 T hnt (by omega) hrd hgl false false e1 (by simp) e2 (by rw [key]; exact decide_eq_false h3) (by simp)).mono ?_
        rintro e w' ⟨he1, he2⟩
        exact .inl ⟨hq, he1, he2⟩
/-- what reading answers -/
def ResF (s : List UInt8) (p : FlP) (b : Bool) : Prop := (b = true ∧ GoodS s p) ∨ (b = false ∧ p = fl0 ∧ ∀ q, ¬ GoodS s q)
theorem ResF.yes {s : List UInt8} {p q : FlP} {b : Bool} (h : ResF s p b) (g : GoodS s q) : q = p ∧ true = b := by
  rcases h with ⟨h1, h2⟩ | ⟨_, _, h3⟩
  · exact ⟨good_one g h2, h1.symm⟩
  · exact absurd g (h3 q)
theorem ResF.no {s : List UInt8} {p : FlP} {b : Bool} (h : ResF s p b) (g : ∀ q, ¬ GoodS s q) : fl0 = p ∧ false = b := by
  rcases h with ⟨_, h2⟩ | ⟨h1, h2, _⟩
  · exact absurd h2 (g p)
  · exact ⟨h2.symm, h1.symm⟩
theorem resF_any (s : List UInt8) : ∃ p b, ResF s p b := by
  by_cases h : ∃ q, GoodS s q
  · obtain ⟨q, hq⟩ := h
    exact ⟨q, true, .inl ⟨rfl, hq⟩⟩
  · exact ⟨fl0, false, .inr ⟨rfl, rfl, fun q hq => h ⟨q, hq⟩⟩⟩
theorem fold_sz {L : List (List UInt8)} {p : FlP} {k : Nat} {s : List UInt8} (hs : linesD s = some L) (hl : s.length ≤ 1048576) (h : foldO iLine fl0 ((L.take k).map (splitL 32)) = some p) : SzB p 1048576 := by
  have h1 := lines_sum hs
  have h2 := (linesD_bd hs hl).2
  have h3 := SzB.fold SzB.zero (fun l hl => h2 l (List.mem_of_mem_take hl)) h
  have h4 : sum1 (L.take k) ≤ sum1 L := by
    have e : L = L.take k ++ L.drop k := (List.take_append_drop k L).symm
    have e2 : sum1 L = sum1 (L.take k) + sum1 (L.drop k) := by
      conv => lhs; rw [e]
      unfold sum1
      rw [List.map_append, List.sum_append]
    omega
  exact h3.mono (by omega)
theorem rdF_lines {f : FlP → List (List UInt8) → Option FlP} {s : List UInt8} {L : List (List UInt8)} (h : linesD s = some L) : rdF f s = foldO f fl0 (L.map (splitL 32)) := by unfold rdF; rw [h]
theorem rdF_none {f : FlP → List (List UInt8) → Option FlP} {s : List UInt8} (h : linesD s = none) : rdF f s = none := by unfold rdF; rw [h]
theorem ResF.sz {s : List UInt8} {p : FlP} {b : Bool} (h : ResF s p b) (hs : s.length ≤ 1048576) : PlSz p ∧ PlTx p := by
  rcases h with ⟨_, h2⟩ | ⟨_, h2, _⟩
  · have h3 := h2.good.1
    cases hl : linesD s with
    | none => rw [rdF_none hl] at h3; cases h3
    | some L =>
      rw [rdF_lines hl] at h3
      exact (fold_sz (k := L.length) hl hs (by rw [List.take_length]; exact h3)).pl (Nat.le_refl _)
  · subst h2
    exact (SzB.zero.mono (Nat.zero_le _)).pl (Nat.le_refl _)
theorem goodI_none {s : List UInt8} (h : rdF iLine s = none) : ∀ q, ¬ GoodS s q := fun q hq => by
  have h1 := hq.good.1
  rw [h] at h1; cases h1
theorem goodI_bad {s : List UInt8} {p : FlP} (h : rdF iLine s = some p) (hn : ¬ (FileOk p ∧ fileTx p = s)) : ∀ q, ¬ GoodS s q := fun q hq => by
  have h1 := hq.good
  rw [GoodI, h] at h1
  obtain ⟨e, h2, h3⟩ := h1
  injection e with e
  subst e
  exact hn ⟨h2, h3⟩
theorem goodI_yes {s : List UInt8} {p : FlP} (h : rdF iLine s = some p) (h1 : FileOk p) (h2 : fileTx p = s) : GoodS s p := good_same.1 ⟨h, h1, h2⟩
theorem words_of {x : ByteArray} {l : List UInt8} (h : x.data.toList = l) : ((splitBs 32 x).map fun y => y.data.toList) = splitL 32 l := by rw [splitBs_map, h]
theorem fold_take {L : List (List UInt8)} {k : Nat} {p q : FlP} {f : FlP → List (List UInt8) → Option FlP} (h : foldO f fl0 ((L.take k).map (splitL 32)) = some p) (hk : k < L.length) (hq : f p (splitL 32 L[k]) = some q) : foldO f fl0 ((L.take (k + 1)).map (splitL 32)) = some q := by
  rw [List.take_succ_eq_append_getElem hk, List.map_append, foldO_append h]
  exact foldO_cons hq
theorem fold_bad {L : List (List UInt8)} {k : Nat} {p : FlP} {f : FlP → List (List UInt8) → Option FlP} (h : foldO f fl0 ((L.take k).map (splitL 32)) = some p) (hk : k < L.length) (hq : f p (splitL 32 L[k]) = none) : foldO f fl0 (L.map (splitL 32)) = none := by
  have hk2 : k < (L.map (splitL 32)).length := by rw [List.length_map]; exact hk
  refine foldO_none (k := k) (by rw [← List.map_take]; exact h) hk2 ?_
  rw [List.getElem_map]
  exact hq
theorem fileTx_eq {p : FlP} {s y : ByteArray} {b : Bool} (hy : bs (fileTx p) = y) (h : (fileTx p == s.data.toList) = b) : (y.toList == s.toList) = b := by rw [toList_data, toList_data, ← hy, bs_list, h]
end Go.Proofs.YtmdmjnhebbhjbaaGreatDoor
