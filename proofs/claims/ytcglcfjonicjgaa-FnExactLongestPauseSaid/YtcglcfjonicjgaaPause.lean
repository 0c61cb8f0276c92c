/-
  The longest pause of a stroke: program and reference find the same.
-/
import Derived.Test.YtcglcfjonicjgaaStrokePlain
import Derived.Test.YtcglcfjonicjgaaValidS
namespace Go.Proofs.Ytcglcfjonicjgaa
set_option linter.unusedSimpArgs false
set_option linter.unusedVariables false
open Go.RowKit

def pauseROk (l : List Pt) : Int × Int := if l.length = 1 then (0, 6) else (((pauseBest l (l.length - 1) : Nat) : Int), 0)
def pauseR (l : List Pt) : Int × Int := if strB l = true then pauseROk l else (0, 1)
/-- the longest so far, -1 at the start -/
def mostOf (l : List Pt) (k : Nat) : Int := if k = 0 then -1 else pauseOf l (pauseBest l k)
theorem most_yes {l : List Pt} {k : Nat} (h : mostOf l k < pauseOf l k) : pauseBest l (k + 1) = k ∧ mostOf l (k + 1) = pauseOf l k := by
  have e : pauseBest l (k + 1) = k := by
    rcases Nat.eq_zero_or_pos k with h0 | h0
    · subst h0; simp [pauseBest]
    · rw [mostOf, if_neg (by omega)] at h
      rw [pauseBest, if_pos h]
  exact ⟨e, by rw [mostOf, if_neg (by omega), e]⟩
theorem most_no {l : List Pt} {k : Nat} (hp : 0 < pauseOf l k) (h : ¬ mostOf l k < pauseOf l k) : pauseBest l (k + 1) = pauseBest l k ∧ mostOf l (k + 1) = mostOf l k := by
  rcases Nat.eq_zero_or_pos k with h0 | h0
  · subst h0; simp only [mostOf, if_true] at h; omega
  · have h' := h
    rw [mostOf, if_neg (by omega)] at h'
    have e : pauseBest l (k + 1) = pauseBest l k := by rw [pauseBest, if_neg h']
    exact ⟨e, by rw [mostOf, if_neg (by omega), mostOf, if_neg (by omega), e]⟩
theorem best_yes {l : List Pt} {k : Nat} (h : pauseOf l (pauseBest l k) < pauseOf l k) : pauseBest l (k + 1) = k := by rw [pauseBest, if_pos h]
theorem best_no {l : List Pt} {k : Nat} (h : ¬ pauseOf l (pauseBest l k) < pauseOf l k) : pauseBest l (k + 1) = pauseBest l k := by rw [pauseBest, if_neg h]

set_option maxHeartbeats 4000000 in
theorem iLongestPause (A : Option Addr) (n c : Nat) (xs : List Pt) (w : World) (ha : Rd w A n 3 (rowOf ptC xs)) (la : xs.length = n) (hn : n ≤ 1048576) :
    Calls Try.prog 28 #[.agg #[.slice A n c]] w fun e w' => e = .returned (.tuple #[.int .i64 (pauseR xs).1, .int .i64 (pauseR xs).2]) ∧ Below w.heap.size w w' := by
  have hR : Hid (pauseR xs = if strB xs = true then pauseROk xs else (0, 1)) := rfl
  have HV := validStroke_any A n c xs (w.alloc (.cells #[.slice A n c] 35)) (ha.alloc _) la hn
  cases h1 : strB xs
  · rw [h1] at HV
    have H1 := Lib.hid h1
    clear h1
    go_enter Try.func28, Try.ntmps28
    go_wp2_with fail
    refine HV.mono ?_
    rintro e w2 ⟨rfl, hb⟩
    go_wp2_with fail
    go_ret2
    exact ⟨by rw [hR.out, H1.out]; rfl, Below.next (by go_grown) hb⟩
  · rw [h1] at HV
    have H1 := Lib.hid h1
    obtain ⟨hn1, hn60, hpt, htt⟩ := strB_true h1
    have HP : Hid (ptsB xs) := hpt
    have HT := Lib.hid htt
    rw [la] at hn1 hn60
    have HA0 := Lib.hid (ha.alloc (.cells #[.slice A n c] 35))
    have LA := Lib.hid la
    replace hR : Hid (pauseR xs = pauseROk xs) := by rw [Hid, hR.out, h1]; rfl
    clear h1 hpt htt ha la
    go_enter Try.func28, Try.ntmps28
    go_wp2_with fail
    refine HV.mono ?_
    rintro e w2 ⟨rfl, hb⟩
    clear HV
    have hcs : w2.cell? ⟨w.heap.size, 0, none⟩ = some (.slice A n c) := (hb.cell (p := ⟨w.heap.size, 0, none⟩) (by simp)).trans (by go_simp)
    have hws : w.heap.size < w2.heap.size := by have := hb.size; simp at this; omega
    have HA := Lib.hid (HA0.out.below hb)
    have hT : Below w.heap.size w w2 := Below.next (by go_grown) hb
    clear HA0 hb
    cases e1 : decide (n = 1)
    · have e2 : ¬ n = 1 := of_decide_eq_false e1
      have HR : Hid (pauseR xs = (((pauseBest xs (n - 1) : Nat) : Int), 0)) := by rw [Hid, hR.out, pauseROk, LA.out, if_neg e2]
      clear hR e1
      go_wp2_with fail
      go_loopw [4, 5, 6] (fun b m i wr => ∃ k : Nat, k + 1 ≤ n ∧ i = .int .i64 k ∧ b = .int .i64 ((pauseBest xs k : Nat) : Int) ∧ m = .int .i64 (mostOf xs k) ∧ Below w2.heap.size w2 wr) (fun _ _ i _ => n - (intOf i).toNat)
      case atStart => exact ⟨0, by omega, rfl, rfl, rfl, Below.refl _ _⟩
      case round =>
        obtain ⟨k, hk, rfl, rfl, rfl, hB⟩ := hrel
        have hcr : wr.cell? ⟨w.heap.size, 0, none⟩ = some (.slice A n c) := (hB.cell (p := ⟨w.heap.size, 0, none⟩) hws).trans hcs
        have hBs := hB.size
        have hwr : w.heap.size < wr.heap.size := by omega
        have HAr := Lib.hid (HA.out.below hB)
        have hW := Below.next hT hB
        by_cases hlt : k + 1 < n
        · skip
          have ka : k < xs.length := by have := LA.out; omega
          obtain ⟨b1, o1, rfl, l1, a1, a2, a3⟩ := HAr.out.pt LA.out ka
          have kc : k + 1 < xs.length := by have := LA.out; omega
          obtain ⟨_, _, e0, _, c1, c2, c3⟩ := HAr.out.pt LA.out kc
          cases e0
          have hp1 := ptB_true (HP.out k ka)
          have hp2 := ptB_true (HP.out (k + 1) kc)
          have htt := HT.out (k + 1) kc (by omega)
          simp only [Nat.add_sub_cancel] at htt
          have hpo : Hid (pauseOf xs k = xs[k + 1].t - xs[k].t) := pauseOf_is kc
          have hwk : IntKind.i64.wrap ((k : Int) + 1) = (k : Int) + 1 := IntWalk.i64_in _ (by omega)
          have hk0 : (0 : Int) ≤ (k : Int) := by omega
          have hk1 : (0 : Int) ≤ (k : Int) + 1 := by omega
          have hkn : (k : Int) < (n : Int) := by omega
          have hkn1 : (k : Int) + 1 < (n : Int) := by omega
          have hkt : ((k : Int) + 1).toNat = k + 1 := by omega
          have hwd : IntKind.i64.wrap (xs[k + 1].t - xs[k].t) = xs[k + 1].t - xs[k].t := IntWalk.i64_in _ (by omega)
          have e1 : ∃ v, decide (mostOf xs k < xs[k + 1].t - xs[k].t) = v := ⟨_, rfl⟩
          obtain ⟨v, e1⟩ := e1
          go_wp2_with fail
          go_region_held3 (fun w' => (∀ kb ko, kb < wr.heap.size → w'.cell? ⟨kb, ko, none⟩ = wr.cell? ⟨kb, ko, none⟩) ∧ wr.heap.size ≤ w'.heap.size ∧ Below wr.heap.size wr w') (first | exact SB.mk hkB | exact SB.mk ((Below.refl _ _).drew) | (go_split_ands; refine SB.mk (Below.drew ?_); assumption) | (refine SB.mk ?_; go_grown; done) | (go_split_ands; refine SB.mk ?_; go_grown; done)) (fail)
          go_split_ands
          clear hwk hkt hwd
          cases v
          · have hno := most_no (by rw [hpo.out]; omega) (by rw [hpo.out]; exact of_decide_eq_false e1)
            have HN := Lib.hid hno
            clear hno
            go_wp2_with fail
            go_roundw
            case rel => exact ⟨k + 1, by omega, by go_num, by rw [HN.out.1], by rw [HN.out.2], by go_grown⟩
            case measure => simp [intOf]; omega
          · have hyes := most_yes (l := xs) (k := k) (by rw [hpo.out]; exact of_decide_eq_true e1)
            have HN := Lib.hid hyes
            clear hyes
            go_wp2_with fail
            go_roundw
            case rel => exact ⟨k + 1, by omega, by go_num, by rw [HN.out.1], by rw [HN.out.2, hpo.out], by go_grown⟩
            case measure => simp [intOf]; omega
        · go_wp2_with fail
          go_ret2
          obtain rfl : k = n - 1 := by omega
          exact ⟨by rw [HR.out]; rfl, by go_grown⟩
    · have e2 : n = 1 := of_decide_eq_true e1
      have HR : Hid (pauseR xs = (0, 6)) := by rw [Hid, hR.out, pauseROk, LA.out, if_pos e2]
      clear hR e1
      subst e2
      go_wp2_with fail
      go_ret2
      exact ⟨by rw [HR.out]; rfl, by go_grown⟩
set_option maxHeartbeats 4000000 in
theorem sLongestPause (A : Option Addr) (n c : Nat) (xs : List Pt) (w : World) (ha : Rd w A n 3 (rowOf ptC xs)) (la : xs.length = n) (hn : n ≤ 1048576) :
    Calls Try.prog 27 #[.agg #[.slice A n c]] w fun e w' => e = .returned (.tuple #[.int .i64 (pauseR xs).1, .int .i64 (pauseR xs).2]) ∧ Below w.heap.size w w' := by
  have hR : Hid (pauseR xs = if strB xs = true then pauseROk xs else (0, 1)) := rfl
  have HV := l02Stroke_any w.heap.size A n c xs (w.alloc (.cells #[.slice A n c] 35)) (by go_simp) (ha.alloc _) la hn
  cases h1 : strB xs
  · rw [h1] at HV
    have H1 := Lib.hid h1
    clear h1
    go_enter Try.func27, Try.ntmps27
    go_wp2_with fail
    refine HV.mono ?_
    rintro e w2 ⟨rfl, hb⟩
    go_wp2_with fail
    go_ret2
    exact ⟨by rw [hR.out, H1.out]; rfl, Below.next (by go_grown) hb⟩
  · rw [h1] at HV
    have H1 := Lib.hid h1
    obtain ⟨hn1, hn60, hpt, htt⟩ := strB_true h1
    have HP : Hid (ptsB xs) := hpt
    have HT := Lib.hid htt
    rw [la] at hn1 hn60
    have HA0 := Lib.hid (ha.alloc (.cells #[.slice A n c] 35))
    have LA := Lib.hid la
    replace hR : Hid (pauseR xs = pauseROk xs) := by rw [Hid, hR.out, h1]; rfl
    clear h1 hpt htt ha la
    go_enter Try.func27, Try.ntmps27
    go_wp2_with fail
    refine HV.mono ?_
    rintro e w2 ⟨rfl, hb⟩
    clear HV
    have hcs : w2.cell? ⟨w.heap.size, 0, none⟩ = some (.slice A n c) := (hb.cell (p := ⟨w.heap.size, 0, none⟩) (by simp)).trans (by go_simp)
    have hws : w.heap.size < w2.heap.size := by have := hb.size; simp at this; omega
    have HA := Lib.hid (HA0.out.below hb)
    have hT : Below w.heap.size w w2 := Below.next (by go_grown) hb
    clear HA0 hb
    cases e1 : decide (n = 1)
    · have e2 : ¬ n = 1 := of_decide_eq_false e1
      have HR : Hid (pauseR xs = (((pauseBest xs (n - 1) : Nat) : Int), 0)) := by rw [Hid, hR.out, pauseROk, LA.out, if_neg e2]
      clear hR e1
      have E2 := Lib.hid e2
      clear e2
      have hn2 : 2 ≤ n := by have := E2.out; omega
      go_wp2_with fail
      go_loopw [4, 5] (fun b i wr => ∃ k q : Nat, 1 ≤ k ∧ k + 1 ≤ n ∧ i = .int .i64 ((k : Int) + 1) ∧ b = .int .i64 ((q : Int) + 1) ∧ Hid (pauseBest xs k = q) ∧ Below w2.heap.size w2 wr) (fun _ i _ => n - (intOf i).toNat)
      case atStart => exact ⟨1, 0, by omega, by omega, rfl, rfl, by simp [Hid, pauseBest], Below.refl _ _⟩
      case round =>
        obtain ⟨k, q, hk1', hk, rfl, rfl, HQ, hB⟩ := hrel
        have hqk : q < k := by rw [← HQ.out]; exact pauseBest_lt xs k (by omega)
        have hcr : wr.cell? ⟨w.heap.size, 0, none⟩ = some (.slice A n c) := (hB.cell (p := ⟨w.heap.size, 0, none⟩) hws).trans hcs
        have hBs := hB.size
        have hwr : w.heap.size < wr.heap.size := by omega
        have HAr := Lib.hid (HA.out.below hB)
        have hW := Below.next hT hB
        by_cases hlt : k + 1 < n
        · skip
          have ka : k < xs.length := by have := LA.out; omega
          obtain ⟨b1, o1, rfl, l1, a1, a2, a3⟩ := HAr.out.pt LA.out ka
          have kc : k + 1 < xs.length := by have := LA.out; omega
          obtain ⟨_, _, e0, _, c1, c2, c3⟩ := HAr.out.pt LA.out kc
          cases e0
          have kd : q < xs.length := by have := LA.out; omega
          obtain ⟨_, _, e0, _, d1, d2, d3⟩ := HAr.out.pt LA.out kd
          cases e0
          have kf : q + 1 < xs.length := by have := LA.out; omega
          obtain ⟨_, _, e0, _, f1, f2, f3⟩ := HAr.out.pt LA.out kf
          cases e0
          have hp1 := ptB_true (HP.out k ka)
          have hp2 := ptB_true (HP.out (k + 1) kc)
          have htt := HT.out (k + 1) kc (by omega)
          simp only [Nat.add_sub_cancel] at htt
          have hpo : Hid (pauseOf xs k = xs[k + 1].t - xs[k].t) := pauseOf_is kc
          have hwk : IntKind.i64.wrap (k : Int) = (k : Int) := IntWalk.i64_in _ (by omega)
          have hk0 : (0 : Int) ≤ (k : Int) := by omega
          have hk1 : (0 : Int) ≤ (k : Int) + 1 := by omega
          have hkn : (k : Int) < (n : Int) := by omega
          have hkn1 : (k : Int) + 1 < (n : Int) := by omega
          have hkt : ((k : Int) + 1).toNat = k + 1 := by omega
          have hwd : IntKind.i64.wrap (xs[k + 1].t - xs[k].t) = xs[k + 1].t - xs[k].t := IntWalk.i64_in _ (by omega)
          have hq1 := ptB_true (HP.out q kd)
          have hq2 := ptB_true (HP.out (q + 1) kf)
          have hqo : Hid (pauseOf xs q = xs[q + 1].t - xs[q].t) := pauseOf_is kf
          have hwq : IntKind.i64.wrap (q : Int) = (q : Int) := IntWalk.i64_in _ (by omega)
          have hq0 : (0 : Int) ≤ (q : Int) := by omega
          have hq1 : (0 : Int) ≤ (q : Int) + 1 := by omega
          have hqn : (q : Int) < (n : Int) := by omega
          have hqn1 : (q : Int) + 1 < (n : Int) := by omega
          have hqt : ((q : Int) + 1).toNat = q + 1 := by omega
          have hwe : IntKind.i64.wrap (xs[q + 1].t - xs[q].t) = xs[q + 1].t - xs[q].t := IntWalk.i64_in _ (by omega)
          obtain ⟨v, e1⟩ : ∃ v, decide (xs[q + 1].t - xs[q].t < xs[k + 1].t - xs[k].t) = v := ⟨_, rfl⟩
          go_wp2_with fail
          go_region_held3 (fun w' => (∀ kb ko, kb < wr.heap.size → w'.cell? ⟨kb, ko, none⟩ = wr.cell? ⟨kb, ko, none⟩) ∧ wr.heap.size ≤ w'.heap.size ∧ Below wr.heap.size wr w') (first | exact SB.mk hkB | exact SB.mk ((Below.refl _ _).drew) | (go_split_ands; refine SB.mk (Below.drew ?_); assumption) | (refine SB.mk ?_; go_grown; done) | (go_split_ands; refine SB.mk ?_; go_grown; done)) (fail)
          go_split_ands
          clear hwk hkt hwd hwq hqt hwe
          cases v
          · have HN : Hid (pauseBest xs (k + 1) = q) := by
              have := best_no (l := xs) (k := k) (by rw [HQ.out, hpo.out, hqo.out]; exact of_decide_eq_false e1)
              rw [Hid, this, HQ.out]
            go_wp2_with fail
            go_roundw
            case rel => exact ⟨k + 1, q, by omega, by omega, by go_num, rfl, HN, by go_grown⟩
            case measure => simp [intOf]; omega
          · have HN : Hid (pauseBest xs (k + 1) = k) := best_yes (by rw [HQ.out, hpo.out, hqo.out]; exact of_decide_eq_true e1)
            go_wp2_with fail
            go_roundw
            case rel => exact ⟨k + 1, k, by omega, by omega, by go_num, by go_num, HN, by go_grown⟩
            case measure => simp [intOf]; omega
        · go_wp2_with fail
          go_ret2
          obtain rfl : k = n - 1 := by omega
          exact ⟨by rw [HR.out, HQ.out]; simp, by go_grown⟩
    · have e2 : n = 1 := of_decide_eq_true e1
      have HR : Hid (pauseR xs = (0, 6)) := by rw [Hid, hR.out, pauseROk, LA.out, if_pos e2]
      clear hR e1
      subst e2
      go_wp2_with fail
      go_ret2
      exact ⟨by rw [HR.out]; rfl, by go_grown⟩
end Go.Proofs.Ytcglcfjonicjgaa
