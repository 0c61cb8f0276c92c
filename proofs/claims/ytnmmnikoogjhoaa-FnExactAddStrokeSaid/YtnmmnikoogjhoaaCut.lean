/-
  Some strokes of an ink, copied: program and reference make the same, or refuse alike.
-/
import Derived.Test.YtnmmnikoogjhoaaOwnInkS
import Derived.Test.YtnmmnikoogjhoaaInkCount
namespace Go.Proofs.Ytnmmnikoogjhoaa
set_option linter.unusedSimpArgs false
set_option linter.unusedVariables false
set_option maxRecDepth 20000
open Go.RowKit
open Go.ChangeShapes Go.WideShapes Go.Deep Go.Joins

set_option maxHeartbeats 4000000 in
theorem copyInk_any (A : Option Addr) (n c : Nat) (S : List St) (w : World) (h : InkRd w A n S) (hs : ∀ s ∈ S, s.l.length ≤ 1048576) (hn : n ≤ 1048576) :
    Calls Try.prog 57 #[.agg #[.slice A n c]] w fun e w' => ∃ A2 c2 T, e = .returned (.agg #[.slice A2 n c2]) ∧ ptsOf T = ptsOf S ∧ InkOwn w' w.heap.size w'.heap.size (.slice A2 n c2) T ∧ Below w.heap.size w w' := by
  have HA := Lib.hid ((h.alloc (.cells #[.slice A n c] 29)).alloc (.cells #[.slice none 0 0] 29))
  have hr0 := Bk.new1 w (.cells #[.slice A n c] 29) #[.slice none 0 0] 29
  clear h
  go_enter Try.func57, Try.ntmps57
  go_wp2_with fail
  refine (mapC_any A n c S _ HA.out hs hn).mono ?_
  rintro e w2 ⟨A2, c2, T, rfl, hp, ho, hb⟩
  have HP := Lib.hid hp
  have HO := Lib.hid ho
  have hr2 := hr0.below hb (by simp)
  obtain ⟨er, fr⟩ := bk1 hr2
  have hgr := hr2.lt
  have hB : Below w.heap.size w w2 := Below.next (by go_grown) hb
  clear hp ho hb hr0
  go_wp2_with fail
  refine bodyPost_ret (by simp [results, Try.results57, go_sem, *]; try rfl) rfl ?_
  refine ⟨A2, c2, T, rfl, by rw [HP.out, mapP_id], ?_, by go_grown⟩
  have hsz : (w2.setCell ⟨w.heap.size + 1, 0, none⟩ (.slice A2 n c2)).heap.size = w2.heap.size := by simp [World.setCell]
  rw [hsz]
  exact (HO.out.keep fun j hj _ _ => Below.heap_setCell _ _ _ _ (by simp only [World.size_alloc] at hj; simp only [ne_eq]; omega)).low (by simp only [World.size_alloc]; omega)

theorem within_is {n low high : Int} {b : Bool} (h : Hid (inB n low high = b)) (w : World) :
    Calls Try.prog 56 #[.int .i64 n, .int .i64 low, .int .i64 high] w fun e w' => e = .returned (.bool b) ∧ w = w' := by
  rw [← h.out]; exact within_any n low high w
theorem l00In_is {n low high : Int} {b : Bool} (h : Hid (inB n low high = b)) (w : World) :
    Calls Try.prog 54 #[.int .i64 n, .int .i64 low, .int .i64 high] w fun e w' => e = .returned (.bool b) ∧ w = w' := by
  rw [← h.out]; exact l00In_any n low high w

/-- s[f:t] -/
theorem run_sub {A : Option Addr} {n c f t : Nat} (hft : f ≤ t) (htn : t ≤ n) (hnc : n ≤ c) : ∃ A' c', (∀ w, (Instr.slice 27 (.slice A n c) (some (.int .i64 (f : Int))) (some (.int .i64 (t : Int))) none).run Try.prog w = .ok (.slice A' (t - f) c') w) ∧ (f < t → ∀ b o, A = some ⟨b, o, none⟩ → A' = some ⟨b, o + f, none⟩) := by
  refine ⟨if c = f then A else A.map (·.add (f * 1)), c - f, fun w => ?_, fun hlt b o e => ?_⟩
  · have h1 : Try.prog.elem 27 = 52 := by kernel_rfl
    have h2 : Try.prog.underlying 27 = some (.slice (Try.prog.elem 27)) := by rw [h1]; exact Try.underlying27
    obtain ⟨i, hi, _, hsz, _⟩ := info_parts stroke_info
    have h3 : ∀ w, (sizeOf 52).run Try.prog w = .ok 1 w := fun w => by simp [sizeOf, typeInfo, hi, hsz]
    rw [run_slice_lh w _ A n c h2 .i64 .i64 (f : Int) (t : Int) (by omega) (by omega) (by omega)]
    simp [h1, h3, Result.andThen, sliced]
  · subst e
    rw [if_neg (by omega)]
    by_cases h0 : f = 0
    · subst h0; simp [Addr.add]
    · simp [Addr.add, h0]
theorem InkRd.sub {w : World} {A A' : Option Addr} {n f t : Nat} {S : List St} (h : InkRd w A n S) (hft : f ≤ t) (htn : t ≤ n) (hA : f < t → ∀ b o, A = some ⟨b, o, none⟩ → A' = some ⟨b, o + f, none⟩) : InkRd w A' (t - f) ((S.drop f).take (t - f)) := by
  have hl : ((S.drop f).take (t - f)).length = t - f := by simp [h.len]; omega
  refine ⟨hl, ?_, fun s hs => h.pts s (List.mem_of_mem_drop (List.mem_of_mem_take hs))⟩
  rcases Nat.lt_or_ge f t with hlt | hge
  · obtain ⟨b, o, e, hb, _⟩ := h.row.2 (show 0 < n by omega)
    have hA' := hA hlt b o e
    subst hA'
    have hr : ∀ L : List St, rowOf skC L = L.map St.val := fun L => by
      induction L with
      | nil => rfl
      | cons a L ih => show skC a ++ rowOf skC L = _; rw [ih]; rfl
    refine ⟨by rw [rowOf_length skC_len, hl], fun _ => ⟨b, o + f, rfl, hb, fun j u hu => ?_⟩⟩
    obtain ⟨b', o', e', _, hc⟩ := h.row.2 (show 0 < n by omega)
    rw [e] at e'
    injection e' with e'
    injection e' with e1 e2
    subst e1; subst e2
    have := hc (f + j) u (by
      rw [hr, List.getElem?_map] at hu ⊢
      rw [List.getElem?_take, List.getElem?_drop] at hu
      split at hu
      · exact hu
      · simp at hu)
    rwa [show o + (f + j) = o + f + j by omega] at this
  · have e : t - f = 0 := by omega
    rw [e]
    simp only [List.take_zero]
    exact Rd.nil _ _ _
theorem ptsOf_sub (S : List St) (f m : Nat) : ptsOf ((S.drop f).take m) = ((ptsOf S).drop f).take m := by simp [ptsOf, List.map_take, List.map_drop]
/-- the strokes from f to t -/
def cutR (P : List (List Pt)) (f t : Int) : List (List Pt) × Int :=
  if inkB P = true then (if inB f 0 t = true then (if t ≤ (P.length : Int) then ((P.drop f.toNat).take (t.toNat - f.toNat), 0) else ([], 2)) else ([], 2)) else ([], 1)
theorem cutR_no {P : List (List Pt)} {f t : Int} (h : inkB P = false) : cutR P f t = ([], 1) := by simp [cutR, h]
theorem cutR_out {P : List (List Pt)} {f t : Int} (h : inkB P = true) (h2 : inB f 0 t = false) : cutR P f t = ([], 2) := by simp [cutR, h, h2]
theorem cutR_far {P : List (List Pt)} {f t : Int} (h : inkB P = true) (h2 : inB f 0 t = true) (h3 : ¬ t ≤ (P.length : Int)) : cutR P f t = ([], 2) := by simp [cutR, h, h2, h3]
theorem cutR_ok {P : List (List Pt)} {f t : Nat} (h : inkB P = true) (h2 : inB (f : Int) 0 (t : Int) = true) (h3 : t ≤ P.length) : cutR P f t = ((P.drop f).take (t - f), 0) := by
  have h4 : (t : Int) ≤ (P.length : Int) := by omega
  simp [cutR, h, h2, h4]
theorem cutR_len (P : List (List Pt)) (f t : Int) : (cutR P f t).1.length ≤ P.length := by
  unfold cutR
  repeat' split
  all_goals simp
  omega
end Go.Proofs.Ytnmmnikoogjhoaa
