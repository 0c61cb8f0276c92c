/-
  How many pairs of segments meet: program and reference count the same.
-/
import Derived.Test.YtcglcfjonicjgaaStrokePlain
import Derived.Test.YtcglcfjonicjgaaValidS
import Derived.Test.YtcglcfjonicjgaaMeetS
namespace Go.Proofs.Ytcglcfjonicjgaa
set_option linter.unusedSimpArgs false
set_option linter.unusedVariables false
open Go.RowKit
open Go.ChangeShapes Go.WideShapes Go.Deep Go.Joins

def hit (l m : List Pt) (i k : Nat) : Nat := if meetB (l.getD i default) (l.getD (i + 1) default) (m.getD k default) (m.getD (k + 1) default) = true then 1 else 0
/-- of segment i, against the first k of the other -/
def hitsRow (l m : List Pt) (i : Nat) : Nat → Nat
  | 0 => 0
  | k + 1 => hitsRow l m i k + hit l m i k
def hits (l m : List Pt) : Nat → Nat
  | 0 => 0
  | i + 1 => hits l m i + hitsRow l m i (m.length - 1)
theorem hitsRow_le (l m : List Pt) (i k : Nat) : hitsRow l m i k ≤ k := by
  induction k with
  | zero => exact Nat.le_refl _
  | succ k ih => unfold hitsRow hit; split <;> omega
theorem hits_le (l m : List Pt) (i : Nat) : hits l m i ≤ 60 * i ∨ 61 ≤ m.length := by
  induction i with
  | zero => exact .inl (Nat.le_refl _)
  | succ i ih => unfold hits; have := hitsRow_le l m i (m.length - 1); omega
theorem hit_at {l m : List Pt} {i k : Nat} (h1 : i + 1 < l.length) (h2 : k + 1 < m.length) : hit l m i k = if meetB l[i] l[i + 1] m[k] m[k + 1] = true then 1 else 0 := by
  unfold hit; rw [getD_at h1, getD_at h2, getD_at (by omega : i < l.length), getD_at (by omega : k < m.length)]
theorem row_yes {l m : List Pt} {i k : Nat} (h1 : i + 1 < l.length) (h2 : k + 1 < m.length) (h : meetB l[i] l[i + 1] m[k] m[k + 1] = true) : hitsRow l m i (k + 1) = hitsRow l m i k + 1 := by
  rw [hitsRow, hit_at h1 h2, if_pos h]
theorem row_no {l m : List Pt} {i k : Nat} (h1 : i + 1 < l.length) (h2 : k + 1 < m.length) (h : meetB l[i] l[i + 1] m[k] m[k + 1] = false) : hitsRow l m i (k + 1) = hitsRow l m i k := by
  rw [hitsRow, hit_at h1 h2, h]; rfl
theorem meet_eq {a b c d : Pt} {v : Bool} (h : Hid (meetB a b c d = v)) (w : World) (ha : ptB a = true) (hb : ptB b = true) (hc : ptB c = true) (hd : ptB d = true) :
    Calls Try.prog 74 #[.agg #[.int .i64 a.x, .int .i64 a.y, .int .i64 a.t], .agg #[.int .i64 b.x, .int .i64 b.y, .int .i64 b.t], .agg #[.int .i64 c.x, .int .i64 c.y, .int .i64 c.t], .agg #[.int .i64 d.x, .int .i64 d.y, .int .i64 d.t]] w fun e w' => e = .returned (.bool v) ∧ Below w.heap.size w w' := by
  rw [← h.out]; exact meet_any a b c d w ha hb hc hd
theorem l05Meet_eq {a b c d : Pt} {v : Bool} (h : Hid (meetB a b c d = v)) (w : World) (ha : ptB a = true) (hb : ptB b = true) (hc : ptB c = true) (hd : ptB d = true) :
    Calls Try.prog 88 #[.agg #[.int .i64 a.x, .int .i64 a.y, .int .i64 a.t], .agg #[.int .i64 b.x, .int .i64 b.y, .int .i64 b.t], .agg #[.int .i64 c.x, .int .i64 c.y, .int .i64 c.t], .agg #[.int .i64 d.x, .int .i64 d.y, .int .i64 d.t]] w fun e w' => e = .returned (.bool v) ∧ Below w.heap.size w w' := by
  rw [← h.out]; exact l05Meet_any a b c d w ha hb hc hd
def crossR (l m : List Pt) : Int × Int := if (strB l && strB m) = true then (((hits l m (l.length - 1) : Nat) : Int), 0) else (0, 1)

set_option maxHeartbeats 8000000 in
theorem l05Crossings_any (p q : Nat) (A A' : Option Addr) (n c n' c' : Nat) (xs ys : List Pt) (w2 : World) (hcs0 : w2.cell? ⟨p, 0, none⟩ = some (.slice A n c)) (hcs1 : w2.cell? ⟨q, 0, none⟩ = some (.slice A' n' c'))
    (ha : Rd w2 A n 3 (rowOf ptC xs)) (hb : Rd w2 A' n' 3 (rowOf ptC ys)) (la : xs.length = n) (lb : ys.length = n') (hp : ptsB xs) (hq : ptsB ys) (hn1 : 1 ≤ n) (hn60 : n ≤ 60) (hm1 : 1 ≤ n') (hm60 : n' ≤ 60) :
    Calls Try.prog 73 #[.pointer (some ⟨p, 0, none⟩), .pointer (some ⟨q, 0, none⟩)] w2 fun e w' => e = .returned (.int .i64 ((hits xs ys (n - 1) : Nat) : Int)) ∧ Below w2.heap.size w2 w' := by
  have hbp : p < w2.heap.size := block_lt_of_cell hcs0
  have hbq : q < w2.heap.size := block_lt_of_cell hcs1
  have HA := Lib.hid ha
  have HB := Lib.hid hb
  have LA := Lib.hid la
  have LB := Lib.hid lb
  have HP := Lib.hid hp
  have HQ := Lib.hid hq
  clear ha hb la lb hp hq
  go_enter Try.func73, Try.ntmps73
  go_wp2_with fail
  go_loopw [5, 6, 7] (fun cn ii kk wr => ∃ i s : Nat, i + 1 ≤ n ∧ s ≤ 3600 ∧ Hid (hits xs ys i = s) ∧ ii = .int .i64 ((i : Int) + 1) ∧ cn = .int .i64 (s : Int) ∧ Below w2.heap.size w2 wr) (fun _ ii _ _ => n - (intOf ii).toNat)
  case atStart => exact ⟨0, 0, by omega, by omega, rfl, rfl, rfl, Below.refl _ _⟩
  case round =>
    obtain ⟨i, s, hi, hsb, hS, rfl, rfl, hB⟩ := hrel
    obtain ⟨wo, rfl⟩ : ∃ wo : World, wo = wr := ⟨_, rfl⟩
    have hq0 : wo.cell? ⟨p, 0, none⟩ = some (.slice A n c) := (hB.cell (p := ⟨p, 0, none⟩) hbp).trans hcs0
    have hq1 : wo.cell? ⟨q, 0, none⟩ = some (.slice A' n' c') := (hB.cell (p := ⟨q, 0, none⟩) hbq).trans hcs1
    have hBs := hB.size
    have hm0 : p < wo.heap.size := by omega
    have hm1 : q < wo.heap.size := by omega
    by_cases hlt : i + 1 < n
    · have HX : Hid (hits xs ys (i + 1) = s + hitsRow xs ys i (n' - 1)) := by rw [Hid, hits, LB.out, hS.out]
      have hin1 : (i : Int) + 1 < (n : Int) := by omega
      go_wp2_with fail
      go_loopw [5, 7] (fun cn kk wr => ∃ k t : Nat, k + 1 ≤ n' ∧ t ≤ s + k ∧ Hid (s + hitsRow xs ys i k = t) ∧ kk = .int .i64 ((k : Int) + 1) ∧ cn = .int .i64 (t : Int) ∧ Below wo.heap.size wo wr) (fun _ kk _ => n' - (intOf kk).toNat)
      case atStart => exact ⟨0, s, by omega, by omega, rfl, rfl, rfl, Below.refl _ _⟩
      case round =>
        obtain ⟨k, t, hk, htb, hTT, rfl, rfl, hC⟩ := hrel
        have hp0 : wr.cell? ⟨p, 0, none⟩ = some (.slice A n c) := (hC.cell (p := ⟨p, 0, none⟩) hm0).trans hq0
        have hp1 : wr.cell? ⟨q, 0, none⟩ = some (.slice A' n' c') := (hC.cell (p := ⟨q, 0, none⟩) hm1).trans hq1
        have hCs := hC.size
        have hr0 : p < wr.heap.size := by omega
        have hr1 : q < wr.heap.size := by omega
        by_cases hlk : k + 1 < n'
        · have HAr := Lib.hid ((HA.out.below hB).below hC)
          have HBr := Lib.hid ((HB.out.below hB).below hC)
          have ka : i < xs.length := by have := LA.out; omega
          have kc : i + 1 < xs.length := by have := LA.out; omega
          have kd : k < ys.length := by have := LB.out; omega
          have kf : k + 1 < ys.length := by have := LB.out; omega
          obtain ⟨b1, o1, rfl, l1, a1, a2, a3⟩ := HAr.out.pt LA.out ka
          obtain ⟨_, _, e0, _, c1, c2, c3⟩ := HAr.out.pt LA.out kc
          cases e0
          obtain ⟨b2, o2, rfl, l2, d1, d2, d3⟩ := HBr.out.pt LB.out kd
          obtain ⟨_, _, e0, _, f1, f2, f3⟩ := HBr.out.pt LB.out kf
          cases e0
          have E1 := Lib.hid (HP.out i ka)
          have E2 := Lib.hid (HP.out (i + 1) kc)
          have E3 := Lib.hid (HQ.out k kd)
          have E4 := Lib.hid (HQ.out (k + 1) kf)
          have hwi : IntKind.i64.wrap (i : Int) = (i : Int) := IntWalk.i64_in _ (by omega)
          have hi0 : (0 : Int) ≤ (i : Int) := by omega
          have hi1 : (0 : Int) ≤ (i : Int) + 1 := by omega
          have hin : (i : Int) < (n : Int) := by omega
          have hit : ((i : Int) + 1).toNat = i + 1 := by omega
          have hwk : IntKind.i64.wrap (k : Int) = (k : Int) := IntWalk.i64_in _ (by omega)
          have hk0 : (0 : Int) ≤ (k : Int) := by omega
          have hk1 : (0 : Int) ≤ (k : Int) + 1 := by omega
          have hkn : (k : Int) < (n' : Int) := by omega
          have hkn1 : (k : Int) + 1 < (n' : Int) := by omega
          have hkt : ((k : Int) + 1).toNat = k + 1 := by omega
          obtain ⟨v, hv⟩ : ∃ v, meetB xs[i] xs[i + 1] ys[k] ys[k + 1] = v := ⟨_, rfl⟩
          have HV := Lib.hid hv
          clear hv
          go_wp2_with fail
          refine wp_region_held_drew (S := (fun w' => (∀ kb ko, kb < wr.heap.size → w'.cell? ⟨kb, ko, none⟩ = wr.cell? ⟨kb, ko, none⟩) ∧ wr.heap.size ≤ w'.heap.size ∧ Below wr.heap.size wr w')) (by kernel_rfl) ?_ (fun hHeld => ?_)
          · (try dsimp only); (first | exact SB.mk hkB | exact SB.mk ((Below.refl _ _).drew) | (go_split_ands; refine SB.mk (Below.drew ?_); assumption) | (refine SB.mk ?_; go_grown; done) | (go_split_ands; refine SB.mk ?_; go_grown; done))
          first | (refine take_on (i := 0) (v := ?_) rfl (by kernel_rfl) (by kernel_rfl) (by kernel_rfl) (fun _ _ _ h => h) rfl ?_ (by assumption) ?_; rotate_left; · (intro w' hSw; (try dsimp only at hSw); go_simp; (try with_reducible rfl))) | (refine take_off (i := 0) rfl (by kernel_rfl) (by kernel_rfl) (by kernel_rfl) (fun _ _ _ h => h) rfl (by assumption) ?_)
          (try simp only [Act.put, List.setIfInBounds_toArray, List.set_cons_zero, List.set_cons_succ])
          first | (refine take_on (i := 1) (v := ?_) rfl (by kernel_rfl) (by kernel_rfl) (by kernel_rfl) (fun _ _ _ h => h) rfl ?_ (by assumption) ?_; rotate_left; · (intro w' hSw; (try dsimp only at hSw); go_simp; (try with_reducible rfl))) | (refine take_off (i := 1) rfl (by kernel_rfl) (by kernel_rfl) (by kernel_rfl) (fun _ _ _ h => h) rfl (by assumption) ?_)
          (try simp only [Act.put, List.setIfInBounds_toArray, List.set_cons_zero, List.set_cons_succ])
          first | (refine take_on (i := 2) (v := ?_) rfl (by kernel_rfl) (by kernel_rfl) (by kernel_rfl) (fun _ _ _ h => h) rfl ?_ (by assumption) ?_; rotate_left; · (intro w' hSw; (try dsimp only at hSw); go_simp; (try with_reducible rfl))) | (refine take_off (i := 2) rfl (by kernel_rfl) (by kernel_rfl) (by kernel_rfl) (fun _ _ _ h => h) rfl (by assumption) ?_)
          (try simp only [Act.put, List.setIfInBounds_toArray, List.set_cons_zero, List.set_cons_succ])
          first | (refine take_on (i := 3) (v := ?_) rfl (by kernel_rfl) (by kernel_rfl) (by kernel_rfl) (fun _ _ _ h => h) rfl ?_ (by assumption) ?_; rotate_left; · (intro w' hSw; (try dsimp only at hSw); go_simp; (try with_reducible rfl))) | (refine take_off (i := 3) rfl (by kernel_rfl) (by kernel_rfl) (by kernel_rfl) (fun _ _ _ h => h) rfl (by assumption) ?_)
          (try simp only [Act.put, List.setIfInBounds_toArray, List.set_cons_zero, List.set_cons_succ])
          first | (refine take_on (i := 4) (v := ?_) rfl (by kernel_rfl) (by kernel_rfl) (by kernel_rfl) (fun _ _ _ h => h) rfl ?_ (by assumption) ?_; rotate_left; · (intro w' hSw; (try dsimp only at hSw); go_simp; (try with_reducible rfl))) | (refine take_off (i := 4) rfl (by kernel_rfl) (by kernel_rfl) (by kernel_rfl) (fun _ _ _ h => h) rfl (by assumption) ?_)
          (try simp only [Act.put, List.setIfInBounds_toArray, List.set_cons_zero, List.set_cons_succ])
          first | (refine take_on (i := 5) (v := ?_) rfl (by kernel_rfl) (by kernel_rfl) (by kernel_rfl) (fun _ _ _ h => h) rfl ?_ (by assumption) ?_; rotate_left; · (intro w' hSw; (try dsimp only at hSw); go_simp; (try with_reducible rfl))) | (refine take_off (i := 5) rfl (by kernel_rfl) (by kernel_rfl) (by kernel_rfl) (fun _ _ _ h => h) rfl (by assumption) ?_)
          (try simp only [Act.put, List.setIfInBounds_toArray, List.set_cons_zero, List.set_cons_succ])
          first | (refine take_on (i := 6) (v := ?_) rfl (by kernel_rfl) (by kernel_rfl) (by kernel_rfl) (fun _ _ _ h => h) rfl ?_ (by assumption) ?_; rotate_left; · (intro w' hSw; (try dsimp only at hSw); go_simp; (try with_reducible rfl))) | (refine take_off (i := 6) rfl (by kernel_rfl) (by kernel_rfl) (by kernel_rfl) (fun _ _ _ h => h) rfl (by assumption) ?_)
          (try simp only [Act.put, List.setIfInBounds_toArray, List.set_cons_zero, List.set_cons_succ])
          first | (refine take_on (i := 7) (v := ?_) rfl (by kernel_rfl) (by kernel_rfl) (by kernel_rfl) (fun _ _ _ h => h) rfl ?_ (by assumption) ?_; rotate_left; · (intro w' hSw; (try dsimp only at hSw); go_simp; (try with_reducible rfl))) | (refine take_off (i := 7) rfl (by kernel_rfl) (by kernel_rfl) (by kernel_rfl) (fun _ _ _ h => h) rfl (by assumption) ?_)
          (try simp only [Act.put, List.setIfInBounds_toArray, List.set_cons_zero, List.set_cons_succ])
          first | (refine take_on (i := 8) (v := ?_) rfl (by kernel_rfl) (by kernel_rfl) (by kernel_rfl) (fun _ _ _ h => h) rfl ?_ (by assumption) ?_; rotate_left; · (intro w' hSw; (try dsimp only at hSw); go_simp; (try with_reducible rfl))) | (refine take_off (i := 8) rfl (by kernel_rfl) (by kernel_rfl) (by kernel_rfl) (fun _ _ _ h => h) rfl (by assumption) ?_)
          (try simp only [Act.put, List.setIfInBounds_toArray, List.set_cons_zero, List.set_cons_succ])
          first | (refine take_on (i := 9) (v := ?_) rfl (by kernel_rfl) (by kernel_rfl) (by kernel_rfl) (fun _ _ _ h => h) rfl ?_ (by assumption) ?_; rotate_left; · (intro w' hSw; (try dsimp only at hSw); go_simp; (try with_reducible rfl))) | (refine take_off (i := 9) rfl (by kernel_rfl) (by kernel_rfl) (by kernel_rfl) (fun _ _ _ h => h) rfl (by assumption) ?_)
          (try simp only [Act.put, List.setIfInBounds_toArray, List.set_cons_zero, List.set_cons_succ])
          first | (refine take_on (i := 10) (v := ?_) rfl (by kernel_rfl) (by kernel_rfl) (by kernel_rfl) (fun _ _ _ h => h) rfl ?_ (by assumption) ?_; rotate_left; · (intro w' hSw; (try dsimp only at hSw); go_simp; (try with_reducible rfl))) | (refine take_off (i := 10) rfl (by kernel_rfl) (by kernel_rfl) (by kernel_rfl) (fun _ _ _ h => h) rfl (by assumption) ?_)
          (try simp only [Act.put, List.setIfInBounds_toArray, List.set_cons_zero, List.set_cons_succ])
          first | (refine take_on (i := 11) (v := ?_) rfl (by kernel_rfl) (by kernel_rfl) (by kernel_rfl) (fun _ _ _ h => h) rfl ?_ (by assumption) ?_; rotate_left; · (intro w' hSw; (try dsimp only at hSw); go_simp; (try with_reducible rfl))) | (refine take_off (i := 11) rfl (by kernel_rfl) (by kernel_rfl) (by kernel_rfl) (fun _ _ _ h => h) rfl (by assumption) ?_)
          (try simp only [Act.put, List.setIfInBounds_toArray, List.set_cons_zero, List.set_cons_succ])
          first | (refine take_on (i := 12) (v := ?_) rfl (by kernel_rfl) (by kernel_rfl) (by kernel_rfl) (fun _ _ _ h => h) rfl ?_ (by assumption) ?_; rotate_left; · (intro w' hSw; (try dsimp only at hSw); go_simp; (try with_reducible rfl))) | (refine take_off (i := 12) rfl (by kernel_rfl) (by kernel_rfl) (by kernel_rfl) (fun _ _ _ h => h) rfl (by assumption) ?_)
          (try simp only [Act.put, List.setIfInBounds_toArray, List.set_cons_zero, List.set_cons_succ])
          first | (refine take_on (i := 13) (v := ?_) rfl (by kernel_rfl) (by kernel_rfl) (by kernel_rfl) (fun _ _ _ h => h) rfl ?_ (by assumption) ?_; rotate_left; · (intro w' hSw; (try dsimp only at hSw); go_simp; (try with_reducible rfl))) | (refine take_off (i := 13) rfl (by kernel_rfl) (by kernel_rfl) (by kernel_rfl) (fun _ _ _ h => h) rfl (by assumption) ?_)
          (try simp only [Act.put, List.setIfInBounds_toArray, List.set_cons_zero, List.set_cons_succ])
          first | (refine take_on (i := 14) (v := ?_) rfl (by kernel_rfl) (by kernel_rfl) (by kernel_rfl) (fun _ _ _ h => h) rfl ?_ (by assumption) ?_; rotate_left; · (intro w' hSw; (try dsimp only at hSw); go_simp; (try with_reducible rfl))) | (refine take_off (i := 14) rfl (by kernel_rfl) (by kernel_rfl) (by kernel_rfl) (fun _ _ _ h => h) rfl (by assumption) ?_)
          (try simp only [Act.put, List.setIfInBounds_toArray, List.set_cons_zero, List.set_cons_succ])
          first | (refine take_on (i := 15) (v := ?_) rfl (by kernel_rfl) (by kernel_rfl) (by kernel_rfl) (fun _ _ _ h => h) rfl ?_ (by assumption) ?_; rotate_left; · (intro w' hSw; (try dsimp only at hSw); go_simp; (try with_reducible rfl))) | (refine take_off (i := 15) rfl (by kernel_rfl) (by kernel_rfl) (by kernel_rfl) (fun _ _ _ h => h) rfl (by assumption) ?_)
          (try simp only [Act.put, List.setIfInBounds_toArray, List.set_cons_zero, List.set_cons_succ])
          first | (refine take_on (i := 16) (v := ?_) rfl (by kernel_rfl) (by kernel_rfl) (by kernel_rfl) (fun _ _ _ h => h) rfl ?_ (by assumption) ?_; rotate_left; · (intro w' hSw; (try dsimp only at hSw); go_simp; (try with_reducible rfl))) | (refine take_off (i := 16) rfl (by kernel_rfl) (by kernel_rfl) (by kernel_rfl) (fun _ _ _ h => h) rfl (by assumption) ?_)
          (try simp only [Act.put, List.setIfInBounds_toArray, List.set_cons_zero, List.set_cons_succ])
          first | (refine take_on (i := 17) (v := ?_) rfl (by kernel_rfl) (by kernel_rfl) (by kernel_rfl) (fun _ _ _ h => h) rfl ?_ (by assumption) ?_; rotate_left; · (intro w' hSw; (try dsimp only at hSw); go_simp; (try with_reducible rfl))) | (refine take_off (i := 17) rfl (by kernel_rfl) (by kernel_rfl) (by kernel_rfl) (fun _ _ _ h => h) rfl (by assumption) ?_)
          (try simp only [Act.put, List.setIfInBounds_toArray, List.set_cons_zero, List.set_cons_succ])
          first | (refine take_on (i := 18) (v := ?_) rfl (by kernel_rfl) (by kernel_rfl) (by kernel_rfl) (fun _ _ _ h => h) rfl ?_ (by assumption) ?_; rotate_left; · (intro w' hSw; (try dsimp only at hSw); go_simp; (try with_reducible rfl))) | (refine take_off (i := 18) rfl (by kernel_rfl) (by kernel_rfl) (by kernel_rfl) (fun _ _ _ h => h) rfl (by assumption) ?_)
          (try simp only [Act.put, List.setIfInBounds_toArray, List.set_cons_zero, List.set_cons_succ])
          first | (refine take_on (i := 19) (v := ?_) rfl (by kernel_rfl) (by kernel_rfl) (by kernel_rfl) (fun _ _ _ h => h) rfl ?_ (by assumption) ?_; rotate_left; · (intro w' hSw; (try dsimp only at hSw); go_simp; (try with_reducible rfl))) | (refine take_off (i := 19) rfl (by kernel_rfl) (by kernel_rfl) (by kernel_rfl) (fun _ _ _ h => h) rfl (by assumption) ?_)
          (try simp only [Act.put, List.setIfInBounds_toArray, List.set_cons_zero, List.set_cons_succ])
          first | (refine take_on (i := 20) (v := ?_) rfl (by kernel_rfl) (by kernel_rfl) (by kernel_rfl) (fun _ _ _ h => h) rfl ?_ (by assumption) ?_; rotate_left; · (intro w' hSw; (try dsimp only at hSw); go_simp; (try with_reducible rfl))) | (refine take_off (i := 20) rfl (by kernel_rfl) (by kernel_rfl) (by kernel_rfl) (fun _ _ _ h => h) rfl (by assumption) ?_)
          (try simp only [Act.put, List.setIfInBounds_toArray, List.set_cons_zero, List.set_cons_succ])
          first | (refine take_on (i := 21) (v := ?_) rfl (by kernel_rfl) (by kernel_rfl) (by kernel_rfl) (fun _ _ _ h => h) rfl ?_ (by assumption) ?_; rotate_left; · (intro w' hSw; (try dsimp only at hSw); go_simp; (try with_reducible rfl))) | (refine take_off (i := 21) rfl (by kernel_rfl) (by kernel_rfl) (by kernel_rfl) (fun _ _ _ h => h) rfl (by assumption) ?_)
          (try simp only [Act.put, List.setIfInBounds_toArray, List.set_cons_zero, List.set_cons_succ])
          first | (refine take_on (i := 22) (v := ?_) rfl (by kernel_rfl) (by kernel_rfl) (by kernel_rfl) (fun _ _ _ h => h) rfl ?_ (by assumption) ?_; rotate_left; · (intro w' hSw; (try dsimp only at hSw); go_simp; (try with_reducible rfl))) | (refine take_off (i := 22) rfl (by kernel_rfl) (by kernel_rfl) (by kernel_rfl) (fun _ _ _ h => h) rfl (by assumption) ?_)
          (try simp only [Act.put, List.setIfInBounds_toArray, List.set_cons_zero, List.set_cons_succ])
          first | (refine take_on (i := 23) (v := ?_) rfl (by kernel_rfl) (by kernel_rfl) (by kernel_rfl) (fun _ _ _ h => h) rfl ?_ (by assumption) ?_; rotate_left; · (intro w' hSw; (try dsimp only at hSw); go_simp; (try with_reducible rfl))) | (refine take_off (i := 23) rfl (by kernel_rfl) (by kernel_rfl) (by kernel_rfl) (fun _ _ _ h => h) rfl (by assumption) ?_)
          (try simp only [Act.put, List.setIfInBounds_toArray, List.set_cons_zero, List.set_cons_succ])
          first | (refine take_on (i := 24) (v := ?_) rfl (by kernel_rfl) (by kernel_rfl) (by kernel_rfl) (fun _ _ _ h => h) rfl ?_ (by assumption) ?_; rotate_left; · (intro w' hSw; (try dsimp only at hSw); go_simp; (try with_reducible rfl))) | (refine take_off (i := 24) rfl (by kernel_rfl) (by kernel_rfl) (by kernel_rfl) (fun _ _ _ h => h) rfl (by assumption) ?_)
          (try simp only [Act.put, List.setIfInBounds_toArray, List.set_cons_zero, List.set_cons_succ])
          first | (refine take_on (i := 25) (v := ?_) rfl (by kernel_rfl) (by kernel_rfl) (by kernel_rfl) (fun _ _ _ h => h) rfl ?_ (by assumption) ?_; rotate_left; · (intro w' hSw; (try dsimp only at hSw); go_simp; (try with_reducible rfl))) | (refine take_off (i := 25) rfl (by kernel_rfl) (by kernel_rfl) (by kernel_rfl) (fun _ _ _ h => h) rfl (by assumption) ?_)
          (try simp only [Act.put, List.setIfInBounds_toArray, List.set_cons_zero, List.set_cons_succ])
          first | (refine take_on (i := 26) (v := ?_) rfl (by kernel_rfl) (by kernel_rfl) (by kernel_rfl) (fun _ _ _ h => h) rfl ?_ (by assumption) ?_; rotate_left; · (intro w' hSw; (try dsimp only at hSw); go_simp; (try with_reducible rfl))) | (refine take_off (i := 26) rfl (by kernel_rfl) (by kernel_rfl) (by kernel_rfl) (fun _ _ _ h => h) rfl (by assumption) ?_)
          (try simp only [Act.put, List.setIfInBounds_toArray, List.set_cons_zero, List.set_cons_succ])
          first | (refine take_on (i := 27) (v := ?_) rfl (by kernel_rfl) (by kernel_rfl) (by kernel_rfl) (fun _ _ _ h => h) rfl ?_ (by assumption) ?_; rotate_left; · (intro w' hSw; (try dsimp only at hSw); go_simp; (try with_reducible rfl))) | (refine take_off (i := 27) rfl (by kernel_rfl) (by kernel_rfl) (by kernel_rfl) (fun _ _ _ h => h) rfl (by assumption) ?_)
          (try simp only [Act.put, List.setIfInBounds_toArray, List.set_cons_zero, List.set_cons_succ])
          first | (refine take_on (i := 28) (v := ?_) rfl (by kernel_rfl) (by kernel_rfl) (by kernel_rfl) (fun _ _ _ h => h) rfl ?_ (by assumption) ?_; rotate_left; · (intro w' hSw; (try dsimp only at hSw); go_simp; (try with_reducible rfl))) | (refine take_off (i := 28) rfl (by kernel_rfl) (by kernel_rfl) (by kernel_rfl) (fun _ _ _ h => h) rfl (by assumption) ?_)
          (try simp only [Act.put, List.setIfInBounds_toArray, List.set_cons_zero, List.set_cons_succ])
          first | (refine take_on (i := 29) (v := ?_) rfl (by kernel_rfl) (by kernel_rfl) (by kernel_rfl) (fun _ _ _ h => h) rfl ?_ (by assumption) ?_; rotate_left; · (intro w' hSw; (try dsimp only at hSw); go_simp; (try with_reducible rfl))) | (refine take_off (i := 29) rfl (by kernel_rfl) (by kernel_rfl) (by kernel_rfl) (fun _ _ _ h => h) rfl (by assumption) ?_)
          (try simp only [Act.put, List.setIfInBounds_toArray, List.set_cons_zero, List.set_cons_succ])
          refine wpAnyH_ready (rs := [30]) (by kernel_rfl) (by simp) ?_
          refine AllReadyH.cons rfl (fun K hK => ?_) AllReadyH.nil
          rw [if_pos (by rfl)]
          go_simp
          first | (go_at_call 88; (with_reducible refine (l05Meet_eq HV _ E1.out E2.out E3.out E4.out).mono ?_); rintro e w' ⟨rfl, hb⟩; obtain ⟨_, hks, hkB⟩ := SB.next (by assumption) hb; obtain ⟨hkc, hkf⟩ := bcell hb; have hkz := hb.size; (try simp only [World.size_alloc, World.size_drew] at hkz); (first | (have hkt := Nat.lt_of_succ_le hkz) | (have hkt := Nat.lt_of_lt_of_le (by assumption) hkz) | skip); clear hb)
          refine hK.out _ _ ?_ (fun hHeld2 => ?_)
          · (try dsimp only); (first | exact SB.mk hkB | exact SB.mk ((Below.refl _ _).drew) | (go_split_ands; refine SB.mk (Below.drew ?_); assumption) | (refine SB.mk ?_; go_grown; done) | (go_split_ands; refine SB.mk ?_; go_grown; done))
          clear hK K hHeld; have hHeld := hHeld2; clear hHeld2; (try simp only [Act.put, List.setIfInBounds_toArray, List.set_cons_zero, List.set_cons_succ])
          refine wpAnyH_done (by kernel_rfl) ?_ _
          go_split_ands
          clear hwi hit hwk hkt
          cases v
          · have HN : Hid (s + hitsRow xs ys i (k + 1) = t) := by rw [Hid, row_no kc kf HV.out, hTT.out]
            go_wp2_with fail
            go_roundw
            case rel => exact ⟨k + 1, t, by omega, by omega, HN, by go_num, rfl, Below.next hC (by assumption)⟩
            case measure => simp [intOf]; omega
          · have HN : Hid (s + hitsRow xs ys i (k + 1) = t + 1) := by rw [Hid, row_yes kc kf HV.out, ← hTT.out]; omega
            go_wp2_with fail
            go_roundw
            case rel => exact ⟨k + 1, t + 1, by omega, by omega, HN, by go_num, by go_num, Below.next hC (by assumption)⟩
            case measure => simp [intOf]; omega
        · obtain rfl : n' = k + 1 := by omega
          have HX2 : Hid (hits xs ys (i + 1) = t) := by rw [Hid, HX.out, Nat.add_sub_cancel, hTT.out]
          have hle : t ≤ 3600 := by
            have h := hits_le xs ys (i + 1)
            rw [HX2.out, LB.out] at h
            omega
          go_wp2_with fail
          go_roundw
          case rel => exact ⟨i + 1, t, by omega, hle, HX2, by go_num, rfl, Below.next hB hC⟩
          case measure => simp [intOf]; omega
    · obtain rfl : n = i + 1 := by omega
      go_wp2_with fail
      go_ret
      exact ⟨by rw [Nat.add_sub_cancel, hS.out]; rfl, hB⟩

set_option maxHeartbeats 8000000 in
theorem sCrossingCount (A A' : Option Addr) (n n' c c' : Nat) (xs ys : List Pt) (w : World) (ha : Rd w A n 3 (rowOf ptC xs)) (hb : Rd w A' n' 3 (rowOf ptC ys)) (la : xs.length = n) (lb : ys.length = n') (hn : n ≤ 1048576) (hm : n' ≤ 1048576) :
    Calls Try.prog 41 #[.agg #[.slice A n c], .agg #[.slice A' n' c']] w fun e w' => e = .returned (.tuple #[.int .i64 (crossR xs ys).1, .int .i64 (crossR xs ys).2]) ∧ Below w.heap.size w w' := by
  have HV := l02Stroke_any w.heap.size A n c xs ((w.alloc (.cells #[.slice A n c] 35)).alloc (.cells #[.slice A' n' c'] 35)) (by go_simp) ((ha.alloc _).alloc _) la hn
  have HB0 := Lib.hid ((hb.alloc (.cells #[.slice A n c] 35)).alloc (.cells #[.slice A' n' c'] 35))
  have LB := Lib.hid lb
  cases h1 : strB xs
  · have hR : Hid (crossR xs ys = (0, 1)) := by rw [Hid, crossR, h1]; rfl
    rw [h1] at HV
    clear h1
    go_enter Try.func41, Try.ntmps41
    go_wp2_with fail
    refine HV.mono ?_
    rintro e w2 ⟨rfl, hb⟩
    go_wp2_with fail
    go_ret2
    exact ⟨by rw [hR.out]; rfl, Below.next (by go_grown) hb⟩
  · rw [h1] at HV
    have HA0 := Lib.hid ((ha.alloc (.cells #[.slice A n c] 35)).alloc (.cells #[.slice A' n' c'] 35))
    have LA := Lib.hid la
    obtain ⟨hn1, hn60, hpt, _⟩ := strB_true h1
    have HP : Hid (ptsB xs) := hpt
    rw [la] at hn1 hn60
    have H1 := Lib.hid h1
    clear h1 hpt ha la hb lb
    go_enter Try.func41, Try.ntmps41
    go_wp2_with fail
    refine HV.mono ?_
    rintro e w1 ⟨rfl, hb1⟩
    clear HV
    have hT1 : Below w.heap.size w w1 := Below.next (by go_grown) hb1
    have hz := hb1.size
    simp only [World.size_alloc] at hz
    have hl0 : w.heap.size < w1.heap.size := by omega
    have hl1 : w.heap.size + 1 < w1.heap.size := by omega
    have hx0 : w1.cell? ⟨w.heap.size, 0, none⟩ = some (.slice A n c) := (hb1.cell (p := ⟨w.heap.size, 0, none⟩) (by simp; omega)).trans (by go_simp)
    have hx1 : w1.cell? ⟨w.heap.size + 1, 0, none⟩ = some (.slice A' n' c') := (hb1.cell (p := ⟨w.heap.size + 1, 0, none⟩) (by simp)).trans (by go_simp)
    have HV := l02Stroke_any (w.heap.size + 1) A' n' c' ys w1 hx1 (HB0.out.below hb1) LB.out hm
    cases h2 : strB ys
    · have hR : Hid (crossR xs ys = (0, 1)) := by rw [Hid, crossR, H1.out, h2]; rfl
      rw [h2] at HV
      clear h2
      go_wp2_with fail
      refine HV.mono ?_
      rintro e w2 ⟨rfl, hb2⟩
      go_wp2_with fail
      go_ret2
      exact ⟨by rw [hR.out]; rfl, Below.next hT1 hb2⟩
    · have hR : Hid (crossR xs ys = (((hits xs ys (n - 1) : Nat) : Int), 0)) := by rw [Hid, crossR, H1.out, h2, LA.out]; rfl
      rw [h2] at HV
      obtain ⟨hm1, hm60, hpt, _⟩ := strB_true h2
      have HQ : Hid (ptsB ys) := hpt
      rw [LB.out] at hm1 hm60
      clear h2 hpt
      go_wp2_with fail
      refine HV.mono ?_
      rintro e w2 ⟨rfl, hb2⟩
      clear HV
      have hT := Below.next hT1 hb2
      have hws : w.heap.size < w2.heap.size := Nat.lt_of_lt_of_le hl0 hb2.size
      have hws1 : w.heap.size + 1 < w2.heap.size := Nat.lt_of_lt_of_le hl1 hb2.size
      have hcs0 : w2.cell? ⟨w.heap.size, 0, none⟩ = some (.slice A n c) := (hb2.cell (p := ⟨w.heap.size, 0, none⟩) hl0).trans hx0
      have hcs1 : w2.cell? ⟨w.heap.size + 1, 0, none⟩ = some (.slice A' n' c') := (hb2.cell (p := ⟨w.heap.size + 1, 0, none⟩) hl1).trans hx1
      have HA := Lib.hid ((HA0.out.below hb1).below hb2)
      have HB := Lib.hid ((HB0.out.below hb1).below hb2)
      clear HA0 HB0 hx0 hx1 hb1 hb2
      go_wp2_with fail
      refine (l05Crossings_any w.heap.size (w.heap.size + 1) A A' n c n' c' xs ys _ hcs0 hcs1 HA.out HB.out LA.out LB.out HP.out HQ.out hn1 hn60 hm1 hm60).mono ?_
      rintro e w3 ⟨rfl, hb3⟩
      go_wp2_with fail
      go_ret2
      exact ⟨by rw [hR.out]; rfl, Below.next hT hb3⟩

set_option maxHeartbeats 8000000 in
theorem iCrossingCount (A A' : Option Addr) (n n' c c' : Nat) (xs ys : List Pt) (w : World) (ha : Rd w A n 3 (rowOf ptC xs)) (hb : Rd w A' n' 3 (rowOf ptC ys)) (la : xs.length = n) (lb : ys.length = n') (hn : n ≤ 1048576) (hm : n' ≤ 1048576) :
    Calls Try.prog 42 #[.agg #[.slice A n c], .agg #[.slice A' n' c']] w fun e w' => e = .returned (.tuple #[.int .i64 (crossR xs ys).1, .int .i64 (crossR xs ys).2]) ∧ Below w.heap.size w w' := by
  have HV := validStroke_any A n c xs ((w.alloc (.cells #[.slice A n c] 35)).alloc (.cells #[.slice A' n' c'] 35)) ((ha.alloc _).alloc _) la hn
  have HB0 := Lib.hid ((hb.alloc (.cells #[.slice A n c] 35)).alloc (.cells #[.slice A' n' c'] 35))
  have LB := Lib.hid lb
  cases h1 : strB xs
  · have hR : Hid (crossR xs ys = (0, 1)) := by rw [Hid, crossR, h1]; rfl
    rw [h1] at HV
    clear h1
    go_enter Try.func42, Try.ntmps42
    go_wp2_with fail
    refine HV.mono ?_
    rintro e w2 ⟨rfl, hb⟩
    go_wp2_with fail
    go_ret2
    exact ⟨by rw [hR.out]; rfl, Below.next (by go_grown) hb⟩
  · rw [h1] at HV
    have HA0 := Lib.hid ((ha.alloc (.cells #[.slice A n c] 35)).alloc (.cells #[.slice A' n' c'] 35))
    have LA := Lib.hid la
    obtain ⟨hn1, hn60, hpt, _⟩ := strB_true h1
    have HP : Hid (ptsB xs) := hpt
    rw [la] at hn1 hn60
    have H1 := Lib.hid h1
    clear h1 hpt ha la hb lb
    go_enter Try.func42, Try.ntmps42
    go_wp2_with fail
    refine HV.mono ?_
    rintro e w1 ⟨rfl, hb1⟩
    clear HV
    have hT1 : Below w.heap.size w w1 := Below.next (by go_grown) hb1
    have hz := hb1.size
    simp only [World.size_alloc] at hz
    have hl0 : w.heap.size < w1.heap.size := by omega
    have hl1 : w.heap.size + 1 < w1.heap.size := by omega
    have hx0 : w1.cell? ⟨w.heap.size, 0, none⟩ = some (.slice A n c) := (hb1.cell (p := ⟨w.heap.size, 0, none⟩) (by simp; omega)).trans (by go_simp)
    have hx1 : w1.cell? ⟨w.heap.size + 1, 0, none⟩ = some (.slice A' n' c') := (hb1.cell (p := ⟨w.heap.size + 1, 0, none⟩) (by simp)).trans (by go_simp)
    have HV := validStroke_any A' n' c' ys w1 (HB0.out.below hb1) LB.out hm
    cases h2 : strB ys
    · have hR : Hid (crossR xs ys = (0, 1)) := by rw [Hid, crossR, H1.out, h2]; rfl
      rw [h2] at HV
      clear h2
      go_wp2_with fail
      refine HV.mono ?_
      rintro e w2 ⟨rfl, hb2⟩
      go_wp2_with fail
      go_ret2
      exact ⟨by rw [hR.out]; rfl, Below.next hT1 hb2⟩
    · have hR : Hid (crossR xs ys = (((hits xs ys (n - 1) : Nat) : Int), 0)) := by rw [Hid, crossR, H1.out, h2, LA.out]; rfl
      rw [h2] at HV
      obtain ⟨hm1, hm60, hpt, _⟩ := strB_true h2
      have HQ : Hid (ptsB ys) := hpt
      rw [LB.out] at hm1 hm60
      clear h2 hpt
      go_wp2_with fail
      refine HV.mono ?_
      rintro e w2 ⟨rfl, hb2⟩
      clear HV
      have hT := Below.next hT1 hb2
      have hws : w.heap.size < w2.heap.size := Nat.lt_of_lt_of_le hl0 hb2.size
      have hws1 : w.heap.size + 1 < w2.heap.size := Nat.lt_of_lt_of_le hl1 hb2.size
      have hcs0 : w2.cell? ⟨w.heap.size, 0, none⟩ = some (.slice A n c) := (hb2.cell (p := ⟨w.heap.size, 0, none⟩) hl0).trans hx0
      have hcs1 : w2.cell? ⟨w.heap.size + 1, 0, none⟩ = some (.slice A' n' c') := (hb2.cell (p := ⟨w.heap.size + 1, 0, none⟩) hl1).trans hx1
      have HA := Lib.hid ((HA0.out.below hb1).below hb2)
      have HB := Lib.hid ((HB0.out.below hb1).below hb2)
      clear HA0 HB0 hx0 hx1 hb1 hb2
      go_wp2_with fail
      go_loopw [6, 7, 8] (fun cn ii kk wr => ∃ i s : Nat, i + 1 ≤ n ∧ s ≤ 3600 ∧ Hid (hits xs ys i = s) ∧ ii = .int .i64 ((i : Int) + 1) ∧ cn = .int .i64 (s : Int) ∧ Below w2.heap.size w2 wr) (fun _ ii _ _ => n - (intOf ii).toNat)
      case atStart => exact ⟨0, 0, by omega, by omega, rfl, rfl, rfl, Below.refl _ _⟩
      case round =>
        obtain ⟨i, s, hi, hsb, hS, rfl, rfl, hB⟩ := hrel
        obtain ⟨wo, rfl⟩ : ∃ wo : World, wo = wr := ⟨_, rfl⟩
        have hq0 : wo.cell? ⟨w.heap.size, 0, none⟩ = some (.slice A n c) := (hB.cell (p := ⟨w.heap.size, 0, none⟩) hws).trans hcs0
        have hq1 : wo.cell? ⟨w.heap.size + 1, 0, none⟩ = some (.slice A' n' c') := (hB.cell (p := ⟨w.heap.size + 1, 0, none⟩) hws1).trans hcs1
        have hBs := hB.size
        have hm0 : w.heap.size < wo.heap.size := by omega
        have hm1 : w.heap.size + 1 < wo.heap.size := by omega
        by_cases hlt : i + 1 < n
        · have HX : Hid (hits xs ys (i + 1) = s + hitsRow xs ys i (n' - 1)) := by rw [Hid, hits, LB.out, hS.out]
          have hin1 : (i : Int) + 1 < (n : Int) := by omega
          go_wp2_with fail
          go_loopw [6, 8] (fun cn kk wr => ∃ k t : Nat, k + 1 ≤ n' ∧ t ≤ s + k ∧ Hid (s + hitsRow xs ys i k = t) ∧ kk = .int .i64 ((k : Int) + 1) ∧ cn = .int .i64 (t : Int) ∧ Below wo.heap.size wo wr) (fun _ kk _ => n' - (intOf kk).toNat)
          case atStart => exact ⟨0, s, by omega, by omega, rfl, rfl, rfl, Below.refl _ _⟩
          case round =>
            obtain ⟨k, t, hk, htb, hTT, rfl, rfl, hC⟩ := hrel
            have hp0 : wr.cell? ⟨w.heap.size, 0, none⟩ = some (.slice A n c) := (hC.cell (p := ⟨w.heap.size, 0, none⟩) hm0).trans hq0
            have hp1 : wr.cell? ⟨w.heap.size + 1, 0, none⟩ = some (.slice A' n' c') := (hC.cell (p := ⟨w.heap.size + 1, 0, none⟩) hm1).trans hq1
            have hCs := hC.size
            have hr0 : w.heap.size < wr.heap.size := by omega
            have hr1 : w.heap.size + 1 < wr.heap.size := by omega
            by_cases hlk : k + 1 < n'
            · have HAr := Lib.hid ((HA.out.below hB).below hC)
              have HBr := Lib.hid ((HB.out.below hB).below hC)
              have ka : i < xs.length := by have := LA.out; omega
              have kc : i + 1 < xs.length := by have := LA.out; omega
              have kd : k < ys.length := by have := LB.out; omega
              have kf : k + 1 < ys.length := by have := LB.out; omega
              obtain ⟨b1, o1, rfl, l1, a1, a2, a3⟩ := HAr.out.pt LA.out ka
              obtain ⟨_, _, e0, _, c1, c2, c3⟩ := HAr.out.pt LA.out kc
              cases e0
              obtain ⟨b2, o2, rfl, l2, d1, d2, d3⟩ := HBr.out.pt LB.out kd
              obtain ⟨_, _, e0, _, f1, f2, f3⟩ := HBr.out.pt LB.out kf
              cases e0
              have E1 := Lib.hid (HP.out i ka)
              have E2 := Lib.hid (HP.out (i + 1) kc)
              have E3 := Lib.hid (HQ.out k kd)
              have E4 := Lib.hid (HQ.out (k + 1) kf)
              have hwi : IntKind.i64.wrap (i : Int) = (i : Int) := IntWalk.i64_in _ (by omega)
              have hi0 : (0 : Int) ≤ (i : Int) := by omega
              have hi1 : (0 : Int) ≤ (i : Int) + 1 := by omega
              have hin : (i : Int) < (n : Int) := by omega
              have hit : ((i : Int) + 1).toNat = i + 1 := by omega
              have hwk : IntKind.i64.wrap (k : Int) = (k : Int) := IntWalk.i64_in _ (by omega)
              have hk0 : (0 : Int) ≤ (k : Int) := by omega
              have hk1 : (0 : Int) ≤ (k : Int) + 1 := by omega
              have hkn : (k : Int) < (n' : Int) := by omega
              have hkn1 : (k : Int) + 1 < (n' : Int) := by omega
              have hkt : ((k : Int) + 1).toNat = k + 1 := by omega
              obtain ⟨v, hv⟩ : ∃ v, meetB xs[i] xs[i + 1] ys[k] ys[k + 1] = v := ⟨_, rfl⟩
              have HV := Lib.hid hv
              clear hv
              go_wp2_with fail
              refine wp_region_held_drew (S := (fun w' => (∀ kb ko, kb < wr.heap.size → w'.cell? ⟨kb, ko, none⟩ = wr.cell? ⟨kb, ko, none⟩) ∧ wr.heap.size ≤ w'.heap.size ∧ Below wr.heap.size wr w')) (by kernel_rfl) ?_ (fun hHeld => ?_)
              · (try dsimp only); (first | exact SB.mk hkB | exact SB.mk ((Below.refl _ _).drew) | (go_split_ands; refine SB.mk (Below.drew ?_); assumption) | (refine SB.mk ?_; go_grown; done) | (go_split_ands; refine SB.mk ?_; go_grown; done))
              first | (refine take_on (i := 0) (v := ?_) rfl (by kernel_rfl) (by kernel_rfl) (by kernel_rfl) (fun _ _ _ h => h) rfl ?_ (by assumption) ?_; rotate_left; · (intro w' hSw; (try dsimp only at hSw); go_simp; (try with_reducible rfl))) | (refine take_off (i := 0) rfl (by kernel_rfl) (by kernel_rfl) (by kernel_rfl) (fun _ _ _ h => h) rfl (by assumption) ?_)
              (try simp only [Act.put, List.setIfInBounds_toArray, List.set_cons_zero, List.set_cons_succ])
              first | (refine take_on (i := 1) (v := ?_) rfl (by kernel_rfl) (by kernel_rfl) (by kernel_rfl) (fun _ _ _ h => h) rfl ?_ (by assumption) ?_; rotate_left; · (intro w' hSw; (try dsimp only at hSw); go_simp; (try with_reducible rfl))) | (refine take_off (i := 1) rfl (by kernel_rfl) (by kernel_rfl) (by kernel_rfl) (fun _ _ _ h => h) rfl (by assumption) ?_)
              (try simp only [Act.put, List.setIfInBounds_toArray, List.set_cons_zero, List.set_cons_succ])
              first | (refine take_on (i := 2) (v := ?_) rfl (by kernel_rfl) (by kernel_rfl) (by kernel_rfl) (fun _ _ _ h => h) rfl ?_ (by assumption) ?_; rotate_left; · (intro w' hSw; (try dsimp only at hSw); go_simp; (try with_reducible rfl))) | (refine take_off (i := 2) rfl (by kernel_rfl) (by kernel_rfl) (by kernel_rfl) (fun _ _ _ h => h) rfl (by assumption) ?_)
              (try simp only [Act.put, List.setIfInBounds_toArray, List.set_cons_zero, List.set_cons_succ])
              first | (refine take_on (i := 3) (v := ?_) rfl (by kernel_rfl) (by kernel_rfl) (by kernel_rfl) (fun _ _ _ h => h) rfl ?_ (by assumption) ?_; rotate_left; · (intro w' hSw; (try dsimp only at hSw); go_simp; (try with_reducible rfl))) | (refine take_off (i := 3) rfl (by kernel_rfl) (by kernel_rfl) (by kernel_rfl) (fun _ _ _ h => h) rfl (by assumption) ?_)
              (try simp only [Act.put, List.setIfInBounds_toArray, List.set_cons_zero, List.set_cons_succ])
              first | (refine take_on (i := 4) (v := ?_) rfl (by kernel_rfl) (by kernel_rfl) (by kernel_rfl) (fun _ _ _ h => h) rfl ?_ (by assumption) ?_; rotate_left; · (intro w' hSw; (try dsimp only at hSw); go_simp; (try with_reducible rfl))) | (refine take_off (i := 4) rfl (by kernel_rfl) (by kernel_rfl) (by kernel_rfl) (fun _ _ _ h => h) rfl (by assumption) ?_)
              (try simp only [Act.put, List.setIfInBounds_toArray, List.set_cons_zero, List.set_cons_succ])
              first | (refine take_on (i := 5) (v := ?_) rfl (by kernel_rfl) (by kernel_rfl) (by kernel_rfl) (fun _ _ _ h => h) rfl ?_ (by assumption) ?_; rotate_left; · (intro w' hSw; (try dsimp only at hSw); go_simp; (try with_reducible rfl))) | (refine take_off (i := 5) rfl (by kernel_rfl) (by kernel_rfl) (by kernel_rfl) (fun _ _ _ h => h) rfl (by assumption) ?_)
              (try simp only [Act.put, List.setIfInBounds_toArray, List.set_cons_zero, List.set_cons_succ])
              first | (refine take_on (i := 6) (v := ?_) rfl (by kernel_rfl) (by kernel_rfl) (by kernel_rfl) (fun _ _ _ h => h) rfl ?_ (by assumption) ?_; rotate_left; · (intro w' hSw; (try dsimp only at hSw); go_simp; (try with_reducible rfl))) | (refine take_off (i := 6) rfl (by kernel_rfl) (by kernel_rfl) (by kernel_rfl) (fun _ _ _ h => h) rfl (by assumption) ?_)
              (try simp only [Act.put, List.setIfInBounds_toArray, List.set_cons_zero, List.set_cons_succ])
              first | (refine take_on (i := 7) (v := ?_) rfl (by kernel_rfl) (by kernel_rfl) (by kernel_rfl) (fun _ _ _ h => h) rfl ?_ (by assumption) ?_; rotate_left; · (intro w' hSw; (try dsimp only at hSw); go_simp; (try with_reducible rfl))) | (refine take_off (i := 7) rfl (by kernel_rfl) (by kernel_rfl) (by kernel_rfl) (fun _ _ _ h => h) rfl (by assumption) ?_)
              (try simp only [Act.put, List.setIfInBounds_toArray, List.set_cons_zero, List.set_cons_succ])
              first | (refine take_on (i := 8) (v := ?_) rfl (by kernel_rfl) (by kernel_rfl) (by kernel_rfl) (fun _ _ _ h => h) rfl ?_ (by assumption) ?_; rotate_left; · (intro w' hSw; (try dsimp only at hSw); go_simp; (try with_reducible rfl))) | (refine take_off (i := 8) rfl (by kernel_rfl) (by kernel_rfl) (by kernel_rfl) (fun _ _ _ h => h) rfl (by assumption) ?_)
              (try simp only [Act.put, List.setIfInBounds_toArray, List.set_cons_zero, List.set_cons_succ])
              first | (refine take_on (i := 9) (v := ?_) rfl (by kernel_rfl) (by kernel_rfl) (by kernel_rfl) (fun _ _ _ h => h) rfl ?_ (by assumption) ?_; rotate_left; · (intro w' hSw; (try dsimp only at hSw); go_simp; (try with_reducible rfl))) | (refine take_off (i := 9) rfl (by kernel_rfl) (by kernel_rfl) (by kernel_rfl) (fun _ _ _ h => h) rfl (by assumption) ?_)
              (try simp only [Act.put, List.setIfInBounds_toArray, List.set_cons_zero, List.set_cons_succ])
              first | (refine take_on (i := 10) (v := ?_) rfl (by kernel_rfl) (by kernel_rfl) (by kernel_rfl) (fun _ _ _ h => h) rfl ?_ (by assumption) ?_; rotate_left; · (intro w' hSw; (try dsimp only at hSw); go_simp; (try with_reducible rfl))) | (refine take_off (i := 10) rfl (by kernel_rfl) (by kernel_rfl) (by kernel_rfl) (fun _ _ _ h => h) rfl (by assumption) ?_)
              (try simp only [Act.put, List.setIfInBounds_toArray, List.set_cons_zero, List.set_cons_succ])
              first | (refine take_on (i := 11) (v := ?_) rfl (by kernel_rfl) (by kernel_rfl) (by kernel_rfl) (fun _ _ _ h => h) rfl ?_ (by assumption) ?_; rotate_left; · (intro w' hSw; (try dsimp only at hSw); go_simp; (try with_reducible rfl))) | (refine take_off (i := 11) rfl (by kernel_rfl) (by kernel_rfl) (by kernel_rfl) (fun _ _ _ h => h) rfl (by assumption) ?_)
              (try simp only [Act.put, List.setIfInBounds_toArray, List.set_cons_zero, List.set_cons_succ])
              first | (refine take_on (i := 12) (v := ?_) rfl (by kernel_rfl) (by kernel_rfl) (by kernel_rfl) (fun _ _ _ h => h) rfl ?_ (by assumption) ?_; rotate_left; · (intro w' hSw; (try dsimp only at hSw); go_simp; (try with_reducible rfl))) | (refine take_off (i := 12) rfl (by kernel_rfl) (by kernel_rfl) (by kernel_rfl) (fun _ _ _ h => h) rfl (by assumption) ?_)
              (try simp only [Act.put, List.setIfInBounds_toArray, List.set_cons_zero, List.set_cons_succ])
              first | (refine take_on (i := 13) (v := ?_) rfl (by kernel_rfl) (by kernel_rfl) (by kernel_rfl) (fun _ _ _ h => h) rfl ?_ (by assumption) ?_; rotate_left; · (intro w' hSw; (try dsimp only at hSw); go_simp; (try with_reducible rfl))) | (refine take_off (i := 13) rfl (by kernel_rfl) (by kernel_rfl) (by kernel_rfl) (fun _ _ _ h => h) rfl (by assumption) ?_)
              (try simp only [Act.put, List.setIfInBounds_toArray, List.set_cons_zero, List.set_cons_succ])
              first | (refine take_on (i := 14) (v := ?_) rfl (by kernel_rfl) (by kernel_rfl) (by kernel_rfl) (fun _ _ _ h => h) rfl ?_ (by assumption) ?_; rotate_left; · (intro w' hSw; (try dsimp only at hSw); go_simp; (try with_reducible rfl))) | (refine take_off (i := 14) rfl (by kernel_rfl) (by kernel_rfl) (by kernel_rfl) (fun _ _ _ h => h) rfl (by assumption) ?_)
              (try simp only [Act.put, List.setIfInBounds_toArray, List.set_cons_zero, List.set_cons_succ])
              first | (refine take_on (i := 15) (v := ?_) rfl (by kernel_rfl) (by kernel_rfl) (by kernel_rfl) (fun _ _ _ h => h) rfl ?_ (by assumption) ?_; rotate_left; · (intro w' hSw; (try dsimp only at hSw); go_simp; (try with_reducible rfl))) | (refine take_off (i := 15) rfl (by kernel_rfl) (by kernel_rfl) (by kernel_rfl) (fun _ _ _ h => h) rfl (by assumption) ?_)
              (try simp only [Act.put, List.setIfInBounds_toArray, List.set_cons_zero, List.set_cons_succ])
              first | (refine take_on (i := 16) (v := ?_) rfl (by kernel_rfl) (by kernel_rfl) (by kernel_rfl) (fun _ _ _ h => h) rfl ?_ (by assumption) ?_; rotate_left; · (intro w' hSw; (try dsimp only at hSw); go_simp; (try with_reducible rfl))) | (refine take_off (i := 16) rfl (by kernel_rfl) (by kernel_rfl) (by kernel_rfl) (fun _ _ _ h => h) rfl (by assumption) ?_)
              (try simp only [Act.put, List.setIfInBounds_toArray, List.set_cons_zero, List.set_cons_succ])
              first | (refine take_on (i := 17) (v := ?_) rfl (by kernel_rfl) (by kernel_rfl) (by kernel_rfl) (fun _ _ _ h => h) rfl ?_ (by assumption) ?_; rotate_left; · (intro w' hSw; (try dsimp only at hSw); go_simp; (try with_reducible rfl))) | (refine take_off (i := 17) rfl (by kernel_rfl) (by kernel_rfl) (by kernel_rfl) (fun _ _ _ h => h) rfl (by assumption) ?_)
              (try simp only [Act.put, List.setIfInBounds_toArray, List.set_cons_zero, List.set_cons_succ])
              first | (refine take_on (i := 18) (v := ?_) rfl (by kernel_rfl) (by kernel_rfl) (by kernel_rfl) (fun _ _ _ h => h) rfl ?_ (by assumption) ?_; rotate_left; · (intro w' hSw; (try dsimp only at hSw); go_simp; (try with_reducible rfl))) | (refine take_off (i := 18) rfl (by kernel_rfl) (by kernel_rfl) (by kernel_rfl) (fun _ _ _ h => h) rfl (by assumption) ?_)
              (try simp only [Act.put, List.setIfInBounds_toArray, List.set_cons_zero, List.set_cons_succ])
              first | (refine take_on (i := 19) (v := ?_) rfl (by kernel_rfl) (by kernel_rfl) (by kernel_rfl) (fun _ _ _ h => h) rfl ?_ (by assumption) ?_; rotate_left; · (intro w' hSw; (try dsimp only at hSw); go_simp; (try with_reducible rfl))) | (refine take_off (i := 19) rfl (by kernel_rfl) (by kernel_rfl) (by kernel_rfl) (fun _ _ _ h => h) rfl (by assumption) ?_)
              (try simp only [Act.put, List.setIfInBounds_toArray, List.set_cons_zero, List.set_cons_succ])
              first | (refine take_on (i := 20) (v := ?_) rfl (by kernel_rfl) (by kernel_rfl) (by kernel_rfl) (fun _ _ _ h => h) rfl ?_ (by assumption) ?_; rotate_left; · (intro w' hSw; (try dsimp only at hSw); go_simp; (try with_reducible rfl))) | (refine take_off (i := 20) rfl (by kernel_rfl) (by kernel_rfl) (by kernel_rfl) (fun _ _ _ h => h) rfl (by assumption) ?_)
              (try simp only [Act.put, List.setIfInBounds_toArray, List.set_cons_zero, List.set_cons_succ])
              first | (refine take_on (i := 21) (v := ?_) rfl (by kernel_rfl) (by kernel_rfl) (by kernel_rfl) (fun _ _ _ h => h) rfl ?_ (by assumption) ?_; rotate_left; · (intro w' hSw; (try dsimp only at hSw); go_simp; (try with_reducible rfl))) | (refine take_off (i := 21) rfl (by kernel_rfl) (by kernel_rfl) (by kernel_rfl) (fun _ _ _ h => h) rfl (by assumption) ?_)
              (try simp only [Act.put, List.setIfInBounds_toArray, List.set_cons_zero, List.set_cons_succ])
              refine wpAnyH_ready (rs := [22]) (by kernel_rfl) (by simp) ?_
              refine AllReadyH.cons rfl (fun K hK => ?_) AllReadyH.nil
              rw [if_pos (by rfl)]
              go_simp
              first | (go_at_call 74; (with_reducible refine (meet_eq HV _ E1.out E2.out E3.out E4.out).mono ?_); rintro e w' ⟨rfl, hb⟩; obtain ⟨_, hks, hkB⟩ := SB.next (by assumption) hb; obtain ⟨hkc, hkf⟩ := bcell hb; have hkz := hb.size; (try simp only [World.size_alloc, World.size_drew] at hkz); (first | (have hkt := Nat.lt_of_succ_le hkz) | (have hkt := Nat.lt_of_lt_of_le (by assumption) hkz) | skip); clear hb)
              refine hK.out _ _ ?_ (fun hHeld2 => ?_)
              · (try dsimp only); (first | exact SB.mk hkB | exact SB.mk ((Below.refl _ _).drew) | (go_split_ands; refine SB.mk (Below.drew ?_); assumption) | (refine SB.mk ?_; go_grown; done) | (go_split_ands; refine SB.mk ?_; go_grown; done))
              clear hK K hHeld; have hHeld := hHeld2; clear hHeld2; (try simp only [Act.put, List.setIfInBounds_toArray, List.set_cons_zero, List.set_cons_succ])
              refine wpAnyH_done (by kernel_rfl) ?_ _
              go_split_ands
              clear hwi hit hwk hkt
              cases v
              · have HN : Hid (s + hitsRow xs ys i (k + 1) = t) := by rw [Hid, row_no kc kf HV.out, hTT.out]
                go_wp2_with fail
                go_roundw
                case rel => exact ⟨k + 1, t, by omega, by omega, HN, by go_num, rfl, Below.next hC (by assumption)⟩
                case measure => simp [intOf]; omega
              · have HN : Hid (s + hitsRow xs ys i (k + 1) = t + 1) := by rw [Hid, row_yes kc kf HV.out, ← hTT.out]; omega
                go_wp2_with fail
                go_roundw
                case rel => exact ⟨k + 1, t + 1, by omega, by omega, HN, by go_num, by go_num, Below.next hC (by assumption)⟩
                case measure => simp [intOf]; omega
            · obtain rfl : n' = k + 1 := by omega
              have HX2 : Hid (hits xs ys (i + 1) = t) := by rw [Hid, HX.out, Nat.add_sub_cancel, hTT.out]
              have hle : t ≤ 3600 := by
                have h := hits_le xs ys (i + 1)
                rw [HX2.out, LB.out] at h
                omega
              go_wp2_with fail
              go_roundw
              case rel => exact ⟨i + 1, t, by omega, hle, HX2, by go_num, rfl, Below.next hB hC⟩
              case measure => simp [intOf]; omega
        · obtain rfl : n = i + 1 := by omega
          go_wp2_with fail
          go_ret2
          exact ⟨by rw [hR.out, Nat.add_sub_cancel, hS.out]; rfl, Below.next hT hB⟩
end Go.Proofs.Ytcglcfjonicjgaa
