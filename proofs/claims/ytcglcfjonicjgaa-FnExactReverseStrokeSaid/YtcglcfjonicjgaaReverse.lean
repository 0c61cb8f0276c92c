/-
  A stroke turned round: program and reference make the same, or refuse alike.
-/
import Derived.Test.YtcglcfjonicjgaaBoxOf
import Derived.Test.YtcglcfjonicjgaaMarkP
namespace Go.Proofs.Ytcglcfjonicjgaa
set_option linter.unusedSimpArgs false
set_option linter.unusedVariables false
open Go.RowKit
open Go.ChangeShapes Go.WideShapes Go.Deep Go.Joins

theorem S2.mk {W0 w' : World} {v : Value} {B : Nat} (h : Below W0.heap.size W0 w') (hB : B ≤ W0.heap.size) :
    (∀ kb ko, kb < W0.heap.size → ¬ v.ownBlock = some kb → ¬ kb = B → w'.cell? ⟨kb, ko, none⟩ = W0.cell? ⟨kb, ko, none⟩) ∧ W0.heap.size ≤ w'.heap.size ∧ Below B W0 w' :=
  ⟨fun kb ko hk _ _ => h.cell (p := ⟨kb, ko, none⟩) hk, h.size, h.mono hB⟩
theorem S2.push {W0 w w' : World} {v : Value} {B : Nat} (h : (∀ kb ko, kb < W0.heap.size → ¬ v.ownBlock = some kb → ¬ kb = B → w.cell? ⟨kb, ko, none⟩ = W0.cell? ⟨kb, ko, none⟩) ∧ W0.heap.size ≤ w.heap.size ∧ Below B W0 w)
    (hg : w.grownBy w' v.ownBlock) (hv : ∀ k, v.ownBlock = some k → B ≤ k) (hBw : B ≤ w.heap.size) :
    (∀ kb ko, kb < W0.heap.size → ¬ v.ownBlock = some kb → ¬ kb = B → w'.cell? ⟨kb, ko, none⟩ = W0.cell? ⟨kb, ko, none⟩) ∧ W0.heap.size ≤ w'.heap.size ∧ Below B W0 w' :=
  ⟨fun kb ko h1 h2 h3 => (hg.cell_far ⟨kb, ko, none⟩ (Nat.lt_of_lt_of_le h1 h.2.1) (fun e => h2 e.symm)).trans (h.1 kb ko h1 h2 h3), Nat.le_trans h.2.1 hg.size, h.2.2.grown hg hBw hv⟩
theorem S2.store {W0 w : World} {v : Value} {B : Nat} (h : (∀ kb ko, kb < W0.heap.size → ¬ v.ownBlock = some kb → ¬ kb = B → w.cell? ⟨kb, ko, none⟩ = W0.cell? ⟨kb, ko, none⟩) ∧ W0.heap.size ≤ w.heap.size ∧ Below B W0 w) (u : Value) :
    (∀ kb ko, kb < W0.heap.size → ¬ v.ownBlock = some kb → ¬ kb = B → (w.setCell ⟨B, 0, none⟩ u).cell? ⟨kb, ko, none⟩ = W0.cell? ⟨kb, ko, none⟩) ∧ W0.heap.size ≤ (w.setCell ⟨B, 0, none⟩ u).heap.size ∧ Below B W0 (w.setCell ⟨B, 0, none⟩ u) :=
  ⟨fun kb ko h1 h2 h3 => (World.cell?_of_block (Below.heap_setCell w ⟨B, 0, none⟩ u kb h3)).trans (h.1 kb ko h1 h2 h3), by simpa [World.setCell] using h.2.1, h.2.2.setCell (Nat.le_refl _) u⟩

def turnP (sm : Int) (p : Pt) : Pt := ⟨p.x, p.y, sm - p.t⟩
/-- the last d points, turned -/
def revL (l : List Pt) (sm : Int) : Nat → List Pt
  | 0 => []
  | d + 1 => revL l sm d ++ [turnP sm (l.getD (l.length - 1 - d) default)]
theorem revL_len (l : List Pt) (sm : Int) (d : Nat) : (revL l sm d).length = d := by
  induction d with
  | zero => rfl
  | succ d ih => rw [revL, List.length_append, ih]; rfl
theorem revL_next {l : List Pt} {sm : Int} {q : Nat} (h : q < l.length) : revL l sm (l.length - q) = revL l sm (l.length - (q + 1)) ++ [turnP sm l[q]] := by
  have e : l.length - q = (l.length - (q + 1)) + 1 := by omega
  rw [e, revL]
  have e2 : l.length - 1 - (l.length - (q + 1)) = q := by omega
  rw [e2, getD_at h]
def sumT (l : List Pt) : Int := (l.getD 0 default).t + (l.getD (l.length - 1) default).t
def revR (l : List Pt) : List Pt × Int := if strB l = true then (revL l (sumT l) l.length, 0) else ([], 1)
theorem revR_len (l : List Pt) : (revR l).1.length ≤ 60 := by
  unfold revR
  split
  · rename_i h
    show (revL l (sumT l) l.length).length ≤ 60
    rw [revL_len]
    exact (strB_true h).2.1
  · simp
theorem lastOf_p (A : Option Addr) (m c : Nat) (xs : List Pt) (w : World) (ha : Rd w A (m + 1) 3 (rowOf ptC xs)) (la : xs.length = m + 1) (h0 : m < xs.length) (hn : m + 1 ≤ 1048576) :
    Calls Try.prog 68 #[.agg #[.slice A (m + 1) c]] w fun e w' => e = .returned (.agg #[.int .i64 xs[m].x, .int .i64 xs[m].y, .int .i64 xs[m].t]) ∧ Below w.heap.size w w' := lastOf_any A (m + 1) c xs w ha la h0 hn
theorem run_ptT (x y t : Int) (w : World) : (Instr.field 44 (.agg #[.int .i64 x, .int .i64 y, .int .i64 t]) 2).run Try.prog w = .ok (.int .i64 t) w := by kernel_rfl
theorem bk1 {w : World} {g : Nat} {t : TypeId} {a : Value} (h : Bk w g t #[a]) : w.cell? ⟨g, 0, none⟩ = some a ∧ w.frozen? ⟨g, 0, none⟩ = false := ⟨h.cell 0, h.frozen 0⟩
theorem bk1_put {w : World} {g : Nat} {t : TypeId} {a a' : Value} (h : Bk w g t #[a]) : Bk (w.setCell ⟨g, 0, none⟩ a') g t #[a'] := h.put 0 a'
theorem Own.setCell {α : Type} {f : α → List Value} {E : TypeId} {size : Nat} {w : World} {base : Nat} {v : Value} {l : List α} (h : Own f E size w base v l) (a : Addr) (u : Value) (hne : ∀ k, v.ownBlock = some k → k ≠ a.block) : Own f E size (w.setCell a u) base v l :=
  h.of_block fun k hk => Below.heap_setCell w a u k (hne k hk)

set_option maxHeartbeats 8000000 in
set_option maxRecDepth 20000 in
theorem iReverseStroke (A : Option Addr) (n c N : Nat) (code : Int) (xs L : List Pt) (w : World) (ha : Rd w A n 3 (rowOf ptC xs)) (la : xs.length = n) (hn : n ≤ 1048576) (hR : revR xs = (L, code)) (hN : L.length = N) :
    Calls Try.prog 36 #[.agg #[.slice A n c]] w fun e w' => ∃ A2 c2, e = .returned (.tuple #[.agg #[.slice A2 N c2], .int .i64 code]) ∧ Own ptC 44 3 w' w.heap.size (.slice A2 N c2) L ∧ Below w.heap.size w w' := by
  have HV := validStroke_any A n c xs ((w.alloc (.cells #[.slice A n c] 35)).alloc (.cells #[.slice none 0 0] 35)) ((ha.alloc _).alloc _) la hn
  have ho0 := Bk.new1 w (.cells #[.slice A n c] 35) #[.slice none 0 0] 35
  have HA0 := Lib.hid ((ha.alloc (.cells #[.slice A n c] 35)).alloc (.cells #[.slice none 0 0] 35))
  unfold revR at hR
  cases h1 : strB xs
  all_goals
    rw [h1] at HV hR
    have H1 := Lib.hid h1
    clear h1
    go_enter Try.func36, Try.ntmps36
    go_wp2_with fail
    refine HV.mono ?_
    rintro e w2 ⟨rfl, hb⟩
    clear HV
    have hz := hb.size
    simp only [World.size_alloc] at hz
    have hT : Below w.heap.size w w2 := Below.next (by go_grown) hb
    have hws : w.heap.size < w2.heap.size := by omega
    have hws1 : w.heap.size + 1 < w2.heap.size := by omega
    have hcs : w2.cell? ⟨w.heap.size, 0, none⟩ = some (.slice A n c) := (hb.cell (p := ⟨w.heap.size, 0, none⟩) (by simp; omega)).trans (by go_simp)
    have ho : Bk w2 (w.heap.size + 1) 35 #[.slice none 0 0] := ho0.below hb (by simp)
    obtain ⟨o0, p0⟩ := bk1 ho
  · have e1 : L = [] ∧ code = 1 := by simp at hR; exact ⟨hR.1, hR.2.symm⟩
    obtain ⟨rfl, rfl⟩ := e1
    obtain rfl : N = 0 := by rw [← hN]; rfl
    clear hR hN
    go_wp2_with fail
    refine bodyPost_ret (by simp [results, Try.results36, go_sem, *]; try rfl) rfl ?_
    exact ⟨none, 0, rfl, Own.nil _ _ _ _ _, by go_grown⟩
  · have e1 : L = revL xs (sumT xs) xs.length ∧ code = 0 := by simp at hR; exact ⟨hR.1.symm, hR.2.symm⟩
    obtain ⟨rfl, rfl⟩ := e1
    obtain ⟨hn1, hn60, hpt, htt⟩ := strB_true H1.out
    have HP : Hid (ptsB xs) := hpt
    rw [la] at hn1 hn60
    have HA := Lib.hid (HA0.out.below hb)
    have LA := Lib.hid la
    have hNn : N = n := by rw [← hN, revL_len, la]
    subst hNn
    clear hpt htt ha la hR hN HA0 hb
    obtain ⟨m0, rfl⟩ : ∃ m0, N = m0 + 1 := ⟨N - 1, by omega⟩
    have k0 : 0 < xs.length := by have := LA.out; omega
    have km : m0 < xs.length := by have := LA.out; omega
    obtain ⟨sm, hsm⟩ : ∃ sm, sumT xs = sm := ⟨_, rfl⟩
    have hsm2 : xs[0].t + xs[m0].t = sm := by rw [← hsm, sumT, LA.out, Nat.add_sub_cancel, getD_at k0, getD_at km]
    have hp0 := ptB_true (HP.out 0 k0)
    have hpm := ptB_true (HP.out m0 km)
    have hsmb : 0 ≤ sm ∧ sm ≤ 7200000 := by omega
    have HSM := Lib.hid hsm
    clear hsm
    have hwss : IntKind.i64.wrap (xs[0].t + xs[m0].t) = sm := by rw [hsm2]; exact IntWalk.i64_in _ (by omega)
    have hwss2 : IntKind.i64.wrap sm = sm := IntWalk.i64_in _ (by omega)
    have hf0 := fun w => run_ptT xs[0].x xs[0].y xs[0].t w
    have hf1 := fun w => run_ptT xs[m0].x xs[m0].y xs[m0].t w
    go_upto_region 3 with fail
    go_cut [4] (fun s wx => s = .int .i64 sm ∧ Below w2.heap.size w2 wx)
    case first =>
      refine wp_region_held_drew (S := (fun w' => (∀ kb ko, kb < w2.heap.size → w'.cell? ⟨kb, ko, none⟩ = w2.cell? ⟨kb, ko, none⟩) ∧ w2.heap.size ≤ w'.heap.size ∧ Below w2.heap.size w2 w')) (by kernel_rfl) ?_ (fun hHeld => ?_)
      · (try dsimp only); exact SB.mk ((Below.refl _ _).drew)
      first | (refine take_on (i := 0) (v := ?_) rfl (by kernel_rfl) (by kernel_rfl) (by kernel_rfl) (fun _ _ _ h => h) rfl ?_ (by assumption) ?_; rotate_left; · (intro w' hSw; (try dsimp only at hSw); go_simp; (try with_reducible rfl))) | (refine take_off (i := 0) rfl (by kernel_rfl) (by kernel_rfl) (by kernel_rfl) (fun _ _ _ h => h) rfl (by assumption) ?_)
      (try simp only [Act.put, List.setIfInBounds_toArray, List.set_cons_zero, List.set_cons_succ])
      first | (refine take_on (i := 3) (v := ?_) rfl (by kernel_rfl) (by kernel_rfl) (by kernel_rfl) (fun _ _ _ h => h) rfl ?_ (by assumption) ?_; rotate_left; · (intro w' hSw; (try dsimp only at hSw); go_simp; (try with_reducible rfl))) | (refine take_off (i := 3) rfl (by kernel_rfl) (by kernel_rfl) (by kernel_rfl) (fun _ _ _ h => h) rfl (by assumption) ?_)
      (try simp only [Act.put, List.setIfInBounds_toArray, List.set_cons_zero, List.set_cons_succ])
      refine wpAnyH_ready (rs := [1]) (by kernel_rfl) (by simp) ?_
      refine AllReadyH.cons rfl (fun K hK => ?_) AllReadyH.nil
      rw [if_pos (by rfl)]
      go_simp
      go_at_call 67
      refine (firstOf_any A (m0 + 1) c xs _ HA.out.drew LA.out k0).mono ?_
      rintro e w4 ⟨rfl, hb4⟩
      have hB4 : Below w2.heap.size w2 w4 := Below.next (by go_grown) hb4
      have HA4 := Lib.hid (HA.out.below hB4)
      refine hK.out _ _ ?_ (fun hHeld2 => ?_)
      · (try dsimp only); exact SB.mk hB4
      clear hK K hHeld; have hHeld := hHeld2; clear hHeld2; (try simp only [Act.put, List.setIfInBounds_toArray, List.set_cons_zero, List.set_cons_succ])
      first | (refine take_on (i := 2) (v := ?_) rfl (by kernel_rfl) (by kernel_rfl) (by kernel_rfl) (fun _ _ _ h => h) rfl ?_ (by assumption) ?_; rotate_left; · (intro w' hSw; (try dsimp only at hSw); go_simp; (try with_reducible rfl))) | (refine take_off (i := 2) rfl (by kernel_rfl) (by kernel_rfl) (by kernel_rfl) (fun _ _ _ h => h) rfl (by assumption) ?_)
      (try simp only [Act.put, List.setIfInBounds_toArray, List.set_cons_zero, List.set_cons_succ])
      refine wpAnyH_ready (rs := [4]) (by kernel_rfl) (by simp) ?_
      refine AllReadyH.cons rfl (fun K hK => ?_) AllReadyH.nil
      rw [if_pos (by rfl)]
      go_simp
      go_at_call 68
      refine (lastOf_p A m0 c xs _ HA4.out LA.out km (by omega)).mono ?_
      rintro e w5 ⟨rfl, hb5⟩
      have hB5 : Below w2.heap.size w2 w5 := Below.next hB4 hb5
      refine hK.out _ _ ?_ (fun hHeld2 => ?_)
      · (try dsimp only); exact SB.mk hB5
      clear hK K hHeld; have hHeld := hHeld2; clear hHeld2; (try simp only [Act.put, List.setIfInBounds_toArray, List.set_cons_zero, List.set_cons_succ])
      first | (refine take_on (i := 5) (v := ?_) rfl (by kernel_rfl) (by kernel_rfl) (by kernel_rfl) (fun _ _ _ h => h) rfl ?_ (by assumption) ?_; rotate_left; · (intro w' hSw; (try dsimp only at hSw); go_simp; (try with_reducible rfl))) | (refine take_off (i := 5) rfl (by kernel_rfl) (by kernel_rfl) (by kernel_rfl) (fun _ _ _ h => h) rfl (by assumption) ?_)
      (try simp only [Act.put, List.setIfInBounds_toArray, List.set_cons_zero, List.set_cons_succ])
      first | (refine take_on (i := 6) (v := ?_) rfl (by kernel_rfl) (by kernel_rfl) (by kernel_rfl) (fun _ _ _ h => h) rfl ?_ (by assumption) ?_; rotate_left; · (intro w' hSw; (try dsimp only at hSw); go_simp; (try with_reducible rfl))) | (refine take_off (i := 6) rfl (by kernel_rfl) (by kernel_rfl) (by kernel_rfl) (fun _ _ _ h => h) rfl (by assumption) ?_)
      (try simp only [Act.put, List.setIfInBounds_toArray, List.set_cons_zero, List.set_cons_succ])
      first | (refine take_on (i := 7) (v := ?_) rfl (by kernel_rfl) (by kernel_rfl) (by kernel_rfl) (fun _ _ _ h => h) rfl ?_ (by assumption) ?_; rotate_left; · (intro w' hSw; (try dsimp only at hSw); go_simp; (try with_reducible rfl))) | (refine take_off (i := 7) rfl (by kernel_rfl) (by kernel_rfl) (by kernel_rfl) (fun _ _ _ h => h) rfl (by assumption) ?_)
      (try simp only [Act.put, List.setIfInBounds_toArray, List.set_cons_zero, List.set_cons_succ])
      refine wpAnyH_done (by kernel_rfl) ?_ _
      clear hHeld
      go_wp2_with fail
      go_meet
      exact ⟨rfl, hB5⟩
    case rest =>
      obtain ⟨rfl, hC⟩ := hcut
      have hCs := hC.size
      have hwsL : w.heap.size < wc.heap.size := by omega
      have hwsL1 : w.heap.size + 1 < wc.heap.size := by omega
      have hcsL : wc.cell? ⟨w.heap.size, 0, none⟩ = some (.slice A (m0 + 1) c) := (hC.cell (p := ⟨w.heap.size, 0, none⟩) hws).trans hcs
      have hoL := ho.below hC hws1
      have HAL := Lib.hid (HA.out.below hC)
      have hTL := Below.next hT hC
      clear hcs ho o0 p0 hwss hwss2 hsm2 hf0 hf1
      go_wp2_with fail
      go_loopw [6] (fun i wr => ∃ (m : Nat) (z : Int) (v : Value), m ≤ m0 + 1 ∧ z = (m : Int) - 1 ∧ i = .int .i64 z ∧ Bk wr wc.heap.size 35 #[v] ∧ Own ptC 44 3 wr (wc.heap.size + 1) v (revL xs sm (xs.length - m)) ∧ Below wc.heap.size wc wr) (fun i _ => (intOf i + 1).toNat)
      case atStart => exact ⟨m0 + 1, _, .slice none 0 0, Nat.le_refl _, rfl, by go_num, Bk.new _ _ _, by rw [LA.out, Nat.sub_self]; exact Own.nil _ _ _ _ _, by go_grown⟩
      case round =>
        obtain ⟨m, z, v, hm, hz2, rfl, hbk, hown, hB⟩ := hrel
        have hgl := hbk.lt
        have hBs := hB.size
        have hcr : wr.cell? ⟨w.heap.size, 0, none⟩ = some (.slice A (m0 + 1) c) := (hB.cell (p := ⟨w.heap.size, 0, none⟩) hwsL).trans hcsL
        have hwr : w.heap.size < wr.heap.size := by omega
        have HAr := Lib.hid (HAL.out.below hB)
        have HO := Lib.hid hown
        have HI : Hid (∀ k, v.ownBlock = some k → wc.heap.size + 1 ≤ k ∧ k < wr.heap.size) := hown.lt
        obtain ⟨e0, f0⟩ := bk1 hbk
        clear hown
        rcases m with _ | q
        · obtain rfl : z = -1 := by omega
          clear hz2
          have hobr := hoL.below hB hwsL1
          obtain ⟨o0, p0⟩ := bk1 hobr
          have hown := HO.out
          rw [Nat.sub_zero] at hown
          obtain ⟨A2, c2, hv, _, _, _⟩ := hown.rd
          rw [revL_len, LA.out] at hv
          subst hv
          have hw1 : w.heap.size + 1 < wr.heap.size := by omega
          have HOW := Lib.hid hown
          have hbelow := Below.trans hTL (hB.mono (Nat.le_of_lt hwsL))
          clear hown
          go_wp2_with fail
          refine bodyPost_ret (by simp [results, Try.results36, go_sem, *]; try rfl) rfl ?_
          exact ⟨A2, c2, rfl, by rw [HSM.out]; exact ((HOW.out.setCell _ _ (fun k hk => by have h1 := HOW.out.lt k hk; simp only [ne_eq]; omega)).mono (by omega)), by go_grown⟩
        · obtain rfl : z = (q : Int) := by omega
          clear hz2
          have kq : q < xs.length := by have := LA.out; omega
          obtain ⟨b1, o1, rfl, l1, a1, a2, a3⟩ := HAr.out.pt LA.out kq
          have hpq := ptB_true (HP.out q kq)
          have hq0 : (0 : Int) ≤ (q : Int) := by omega
          have hqn : (q : Int) < (m0 : Int) + 1 := by omega
          have hq1 : q < m0 + 1 := by omega
          have hrn : Hid (revL xs sm (xs.length - q) = revL xs sm (xs.length - (q + 1)) ++ [turnP sm xs[q]]) := revL_next kq
          have hLl : Hid ((revL xs sm (xs.length - (q + 1))).length = xs.length - (q + 1)) := revL_len _ _ _
          go_wp2_with ((at_builtin; refine list_push elem_pt (by rfl) (.tmp 33) (.tmp 43) 33 (by rfl) Try.underlying33 (wc.heap.size + 1) v (revL xs sm (xs.length - (q + 1))) (turnP sm xs[q]) (by rfl) ((HO.out.alloc _).alloc _) (xs.length - (q + 1)) (revL_len _ _ _) (wr.heap.size + 1) 1 (by rfl) (fun i u hu => by rw [(Bk.new1 wr (.cells #[.int .i64 xs[q].x, .int .i64 xs[q].y, .int .i64 xs[q].t] 44) #[.int .i64 xs[q].x, .int .i64 xs[q].y, .int .i64 (sm - xs[q].t)] 44).cell i]; simpa [ptC, turnP] using hu) (by have := LA.out; unfold maxLen; omega) (by have := LA.out; omega) (by simp only [World.size_alloc]; omega) ?_; intro g5 cap5 w5 hown5 hgrow5 hat5 hlt5 hkeep5; have hbk5 : Bk w5 (wc.heap.size) 35 #[v] := (hgrow5.block _ (by simp only [World.size_alloc]; omega) (fun e => by have h2 := HI.out _ e.symm; omega)).trans (by have h3 := hbk; unfold Bk at h3; rw [Below.heap_alloc _ _ _ (by simp only [World.size_alloc]; omega), Below.heap_alloc _ _ _ (by omega)]; exact h3); obtain ⟨e5, f5⟩ := bk1 hbk5; have hz5 := hgrow5.size; simp only [World.size_alloc] at hz5; have hgl5 := hbk5.lt))
          go_roundw
          case rel =>
            refine ⟨q, _, _, by omega, rfl, by go_num, bk1_put hbk5, ?_, ?_⟩
            · rw [hrn.out]; exact hown5.setCell _ _ (fun k hk => by have h1 := hown5.lt k hk; simp only [ne_eq]; omega)
            · have hG : Below wc.heap.size wc w5 := ((hB.alloc (by omega) _).alloc (by simp only [World.size_alloc]; omega) _).grown hgrow5 (by simp only [World.size_alloc]; omega) (fun k hk => by have h2 := HI.out k hk; omega)
              go_grown
          case measure => (simp [intOf]; try omega)

set_option maxHeartbeats 8000000 in
set_option maxRecDepth 20000 in
theorem sReverseStroke (A : Option Addr) (n c N : Nat) (code : Int) (xs L : List Pt) (w : World) (ha : Rd w A n 3 (rowOf ptC xs)) (la : xs.length = n) (hn : n ≤ 1048576) (hR : revR xs = (L, code)) (hN : L.length = N) :
    Calls Try.prog 35 #[.agg #[.slice A n c]] w fun e w' => ∃ A2 c2, e = .returned (.tuple #[.agg #[.slice A2 N c2], .int .i64 code]) ∧ Own ptC 44 3 w' w.heap.size (.slice A2 N c2) L ∧ Below w.heap.size w w' := by
  have HV := l02Stroke_any w.heap.size A n c xs ((w.alloc (.cells #[.slice A n c] 35)).alloc (.cells #[.slice none 0 0] 35)) (by go_simp) ((ha.alloc _).alloc _) la hn
  have ho0 := Bk.new1 w (.cells #[.slice A n c] 35) #[.slice none 0 0] 35
  have HA0 := Lib.hid ((ha.alloc (.cells #[.slice A n c] 35)).alloc (.cells #[.slice none 0 0] 35))
  unfold revR at hR
  cases h1 : strB xs
  all_goals
    rw [h1] at HV hR
    have H1 := Lib.hid h1
    clear h1
    go_enter Try.func35, Try.ntmps35
    go_wp2_with fail
    refine HV.mono ?_
    rintro e w2 ⟨rfl, hb⟩
    clear HV
    have hz := hb.size
    simp only [World.size_alloc] at hz
    have hT : Below w.heap.size w w2 := Below.next (by go_grown) hb
    have hws : w.heap.size < w2.heap.size := by omega
    have hws1 : w.heap.size + 1 < w2.heap.size := by omega
    have hcs : w2.cell? ⟨w.heap.size, 0, none⟩ = some (.slice A n c) := (hb.cell (p := ⟨w.heap.size, 0, none⟩) (by simp; omega)).trans (by go_simp)
    have ho : Bk w2 (w.heap.size + 1) 35 #[.slice none 0 0] := ho0.below hb (by simp)
    obtain ⟨o0, p0⟩ := bk1 ho
  · have e1 : L = [] ∧ code = 1 := by simp at hR; exact ⟨hR.1, hR.2.symm⟩
    obtain ⟨rfl, rfl⟩ := e1
    obtain rfl : N = 0 := by rw [← hN]; rfl
    clear hR hN
    go_wp2_with fail
    refine bodyPost_ret (by simp [results, Try.results35, go_sem, *]; try rfl) rfl ?_
    exact ⟨none, 0, rfl, Own.nil _ _ _ _ _, by go_grown⟩
  · have e1 : L = revL xs (sumT xs) xs.length ∧ code = 0 := by simp at hR; exact ⟨hR.1.symm, hR.2.symm⟩
    obtain ⟨rfl, rfl⟩ := e1
    obtain ⟨hn1, hn60, hpt, htt⟩ := strB_true H1.out
    have HP : Hid (ptsB xs) := hpt
    rw [la] at hn1 hn60
    have HA := Lib.hid (HA0.out.below hb)
    have LA := Lib.hid la
    have hNn : N = n := by rw [← hN, revL_len, la]
    subst hNn
    clear hpt htt ha la hR hN HA0 hb
    obtain ⟨m0, rfl⟩ : ∃ m0, N = m0 + 1 := ⟨N - 1, by omega⟩
    have k0 : 0 < xs.length := by have := LA.out; omega
    have km : m0 < xs.length := by have := LA.out; omega
    obtain ⟨sm, hsm⟩ : ∃ sm, sumT xs = sm := ⟨_, rfl⟩
    have hsm2 : xs[0].t + xs[m0].t = sm := by rw [← hsm, sumT, LA.out, Nat.add_sub_cancel, getD_at k0, getD_at km]
    have hp0 := ptB_true (HP.out 0 k0)
    have hpm := ptB_true (HP.out m0 km)
    have hsmb : 0 ≤ sm ∧ sm ≤ 7200000 := by omega
    have HSM := Lib.hid hsm
    clear hsm
    have hsm3 : xs[0].t + xs[m0].t = sm := hsm2
    have hcsL := hcs
    have hwsL := hws
    have hwsL1 := hws1
    have hoL := ho
    have HAL := HA
    have hTL := hT
    obtain ⟨b1, o1, rfl, l1w, z1, z2, z3⟩ := HA.out.pt LA.out k0
    obtain ⟨_, _, e0, _, y1, y2, y3⟩ := HA.out.pt LA.out km
    cases e0
    simp only [Nat.zero_mul, Nat.add_zero] at z1 z2 z3
    have Z3 := Lib.hid z3
    have Y3 := Lib.hid y3
    clear hcs ho o0 p0 hsm2 z1 z2 z3 y1 y2 y3
    have HS3 := Lib.hid hsm3
    clear hsm3
    go_wp2_with fail
    go_loopw [6] (fun i wr => ∃ (m : Nat) (z : Int) (v : Value), m ≤ m0 + 1 ∧ z = (m : Int) - 1 ∧ i = .int .i64 z ∧ Bk wr w2.heap.size 35 #[v] ∧ Own ptC 44 3 wr (w2.heap.size + 1) v (revL xs sm (xs.length - m)) ∧ Below w2.heap.size w2 wr) (fun i _ => (intOf i + 1).toNat)
    case atStart => exact ⟨m0 + 1, _, .slice none 0 0, Nat.le_refl _, rfl, by go_num, Bk.new _ _ _, by rw [LA.out, Nat.sub_self]; exact Own.nil _ _ _ _ _, by go_grown⟩
    case round =>
      obtain ⟨m, z, v, hm, hz2, rfl, hbk, hown, hB⟩ := hrel
      have hgl := hbk.lt
      have hBs := hB.size
      have hcr : wr.cell? ⟨w.heap.size, 0, none⟩ = some (.slice (some ⟨b1, o1, none⟩) (m0 + 1) c) := (hB.cell (p := ⟨w.heap.size, 0, none⟩) hwsL).trans hcsL
      have hwr : w.heap.size < wr.heap.size := by omega
      have HAr := Lib.hid (HAL.out.below hB)
      have HO := Lib.hid hown
      have HI : Hid (∀ k, v.ownBlock = some k → w2.heap.size + 1 ≤ k ∧ k < wr.heap.size) := hown.lt
      obtain ⟨e0, f0⟩ := bk1 hbk
      clear hown
      rcases m with _ | q
      · obtain rfl : z = -1 := by omega
        clear hz2
        have hobr := hoL.below hB hwsL1
        obtain ⟨o0, p0⟩ := bk1 hobr
        have hown := HO.out
        rw [Nat.sub_zero] at hown
        obtain ⟨A2, c2, hv, _, _, _⟩ := hown.rd
        rw [revL_len, LA.out] at hv
        subst hv
        have hw1 : w.heap.size + 1 < wr.heap.size := by omega
        have HOW := Lib.hid hown
        have hbelow := Below.trans hTL (hB.mono (Nat.le_of_lt hwsL))
        clear hown
        go_wp2_with fail
        refine bodyPost_ret (by simp [results, Try.results35, go_sem, *]; try rfl) rfl ?_
        exact ⟨A2, c2, rfl, by rw [HSM.out]; exact ((HOW.out.setCell _ _ (fun k hk => by have h1 := HOW.out.lt k hk; simp only [ne_eq]; omega)).mono (by omega)), by go_grown⟩
      · obtain rfl : z = (q : Int) := by omega
        clear hz2
        have kq : q < xs.length := by have := LA.out; omega
        obtain ⟨_, _, e0', l1, a1, a2, a3⟩ := HAr.out.pt LA.out kq
        cases e0'
        have x1 : wr.cell? ⟨b1, o1 + 2, none⟩ = some (.int .i64 xs[0].t) := (hB.cell (p := ⟨b1, o1 + 2, none⟩) l1w).trans Z3.out
        have x2 : wr.cell? ⟨b1, o1 + m0 * 3 + 2, none⟩ = some (.int .i64 xs[m0].t) := (hB.cell (p := ⟨b1, o1 + m0 * 3 + 2, none⟩) l1w).trans Y3.out
        have hpq := ptB_true (HP.out q kq)
        have hq0 : (0 : Int) ≤ (q : Int) := by omega
        have hqn : (q : Int) < (m0 : Int) + 1 := by omega
        have hq1 : q < m0 + 1 := by omega
        have hm00 : (0 : Int) ≤ (m0 : Int) := by omega
        have hm01 : (0 : Int) < (m0 : Int) + 1 := by omega
        have hm02 : (m0 : Int) < (m0 : Int) + 1 := by omega
        have hwm : IntKind.i64.wrap (m0 : Int) = (m0 : Int) := IntWalk.i64_in _ (by omega)
        have hsm4 : xs[0].t + xs[m0].t = sm := HS3.out
        have hwss : IntKind.i64.wrap sm = sm := IntWalk.i64_in _ (by omega)
        have hwsd : IntKind.i64.wrap (sm - xs[q].t) = sm - xs[q].t := IntWalk.i64_in _ (by omega)
        have hrn : Hid (revL xs sm (xs.length - q) = revL xs sm (xs.length - (q + 1)) ++ [turnP sm xs[q]]) := revL_next kq
        have h4 : ((wr.alloc (.cells #[.int .i64 xs[q].x, .int .i64 xs[q].y, .int .i64 xs[q].t] 44)).alloc (.cells #[.int .i64 xs[q].x, .int .i64 xs[q].y, .int .i64 (sm - xs[q].t)] 44)).heap[w2.heap.size]? = some (.cells #[v] 35 (0, 0)) := by
          have h3 := hbk
          unfold Bk at h3
          rw [Below.heap_alloc _ _ _ (by simp only [World.size_alloc]; omega), Below.heap_alloc _ _ _ (by omega)]
          exact h3
        have hv1 : ¬ v.ownBlock = some w.heap.size := fun e => by have h2 := HI.out _ e; omega
        have hv2 : ¬ v.ownBlock = some b1 := fun e => by have h2 := HI.out _ e; omega
        have hv3 : ¬ v.ownBlock = some wr.heap.size := fun e => by have h2 := HI.out _ e; omega
        have hb1 : ¬ w.heap.size = w2.heap.size := by omega
        have hb2 : ¬ b1 = w2.heap.size := by omega
        have hb3 : ¬ wr.heap.size = w2.heap.size := by omega
        go_wp2_with fail
        refine wp_region_held_drew (S := (fun w' => (∀ kb ko, kb < (wr.alloc (.cells #[.int .i64 xs[q].x, .int .i64 xs[q].y, .int .i64 xs[q].t] 44)).heap.size → ¬ v.ownBlock = some kb → ¬ kb = w2.heap.size → w'.cell? ⟨kb, ko, none⟩ = (wr.alloc (.cells #[.int .i64 xs[q].x, .int .i64 xs[q].y, .int .i64 xs[q].t] 44)).cell? ⟨kb, ko, none⟩) ∧ (wr.alloc (.cells #[.int .i64 xs[q].x, .int .i64 xs[q].y, .int .i64 xs[q].t] 44)).heap.size ≤ w'.heap.size ∧ Below w2.heap.size (wr.alloc (.cells #[.int .i64 xs[q].x, .int .i64 xs[q].y, .int .i64 xs[q].t] 44)) w')) (by kernel_rfl) ?_ (fun hHeld => ?_)
        · (try dsimp only); exact S2.mk ((Below.refl _ _).drew) (by simp only [World.size_alloc]; omega)
        first | (refine take_on (i := 0) (v := ?_) rfl (by kernel_rfl) (by kernel_rfl) (by kernel_rfl) (fun _ _ _ h => h) rfl ?_ (by assumption) ?_; rotate_left; · (intro w' hSw; (try dsimp only at hSw); go_simp; (try with_reducible rfl))) | (refine take_off (i := 0) rfl (by kernel_rfl) (by kernel_rfl) (by kernel_rfl) (fun _ _ _ h => h) rfl (by assumption) ?_)
        (try simp only [Act.put, List.setIfInBounds_toArray, List.set_cons_zero, List.set_cons_succ])
        first | (refine take_on (i := 2) (v := ?_) rfl (by kernel_rfl) (by kernel_rfl) (by kernel_rfl) (fun _ _ _ h => h) rfl ?_ (by assumption) ?_; rotate_left; · (intro w' hSw; (try dsimp only at hSw); go_simp; (try with_reducible rfl))) | (refine take_off (i := 2) rfl (by kernel_rfl) (by kernel_rfl) (by kernel_rfl) (fun _ _ _ h => h) rfl (by assumption) ?_)
        (try simp only [Act.put, List.setIfInBounds_toArray, List.set_cons_zero, List.set_cons_succ])
        first | (refine take_on (i := 3) (v := ?_) rfl (by kernel_rfl) (by kernel_rfl) (by kernel_rfl) (fun _ _ _ h => h) rfl ?_ (by assumption) ?_; rotate_left; · (intro w' hSw; (try dsimp only at hSw); go_simp; (try with_reducible rfl))) | (refine take_off (i := 3) rfl (by kernel_rfl) (by kernel_rfl) (by kernel_rfl) (fun _ _ _ h => h) rfl (by assumption) ?_)
        (try simp only [Act.put, List.setIfInBounds_toArray, List.set_cons_zero, List.set_cons_succ])
        first | (refine take_on (i := 4) (v := ?_) rfl (by kernel_rfl) (by kernel_rfl) (by kernel_rfl) (fun _ _ _ h => h) rfl ?_ (by assumption) ?_; rotate_left; · (intro w' hSw; (try dsimp only at hSw); go_simp; (try with_reducible rfl))) | (refine take_off (i := 4) rfl (by kernel_rfl) (by kernel_rfl) (by kernel_rfl) (fun _ _ _ h => h) rfl (by assumption) ?_)
        (try simp only [Act.put, List.setIfInBounds_toArray, List.set_cons_zero, List.set_cons_succ])
        first | (refine take_on (i := 5) (v := ?_) rfl (by kernel_rfl) (by kernel_rfl) (by kernel_rfl) (fun _ _ _ h => h) rfl ?_ (by assumption) ?_; rotate_left; · (intro w' hSw; (try dsimp only at hSw); go_simp; (try with_reducible rfl))) | (refine take_off (i := 5) rfl (by kernel_rfl) (by kernel_rfl) (by kernel_rfl) (fun _ _ _ h => h) rfl (by assumption) ?_)
        (try simp only [Act.put, List.setIfInBounds_toArray, List.set_cons_zero, List.set_cons_succ])
        first | (refine take_on (i := 6) (v := ?_) rfl (by kernel_rfl) (by kernel_rfl) (by kernel_rfl) (fun _ _ _ h => h) rfl ?_ (by assumption) ?_; rotate_left; · (intro w' hSw; (try dsimp only at hSw); go_simp; (try with_reducible rfl))) | (refine take_off (i := 6) rfl (by kernel_rfl) (by kernel_rfl) (by kernel_rfl) (fun _ _ _ h => h) rfl (by assumption) ?_)
        (try simp only [Act.put, List.setIfInBounds_toArray, List.set_cons_zero, List.set_cons_succ])
        first | (refine take_on (i := 7) (v := ?_) rfl (by kernel_rfl) (by kernel_rfl) (by kernel_rfl) (fun _ _ _ h => h) rfl ?_ (by assumption) ?_; rotate_left; · (intro w' hSw; (try dsimp only at hSw); go_simp; (try with_reducible rfl))) | (refine take_off (i := 7) rfl (by kernel_rfl) (by kernel_rfl) (by kernel_rfl) (fun _ _ _ h => h) rfl (by assumption) ?_)
        (try simp only [Act.put, List.setIfInBounds_toArray, List.set_cons_zero, List.set_cons_succ])
        first | (refine take_on (i := 8) (v := ?_) rfl (by kernel_rfl) (by kernel_rfl) (by kernel_rfl) (fun _ _ _ h => h) rfl ?_ (by assumption) ?_; rotate_left; · (intro w' hSw; (try dsimp only at hSw); go_simp; (try with_reducible rfl))) | (refine take_off (i := 8) rfl (by kernel_rfl) (by kernel_rfl) (by kernel_rfl) (fun _ _ _ h => h) rfl (by assumption) ?_)
        (try simp only [Act.put, List.setIfInBounds_toArray, List.set_cons_zero, List.set_cons_succ])
        first | (refine take_on (i := 9) (v := ?_) rfl (by kernel_rfl) (by kernel_rfl) (by kernel_rfl) (fun _ _ _ h => h) rfl ?_ (by assumption) ?_; rotate_left; · (intro w' hSw; (try dsimp only at hSw); go_simp; (try with_reducible rfl))) | (refine take_off (i := 9) rfl (by kernel_rfl) (by kernel_rfl) (by kernel_rfl) (fun _ _ _ h => h) rfl (by assumption) ?_)
        (try simp only [Act.put, List.setIfInBounds_toArray, List.set_cons_zero, List.set_cons_succ])
        first | (refine take_on (i := 10) (v := ?_) rfl (by kernel_rfl) (by kernel_rfl) (by kernel_rfl) (fun _ _ _ h => h) rfl ?_ (by assumption) ?_; rotate_left; · (intro w' hSw; (try dsimp only at hSw); go_simp; (try with_reducible rfl))) | (refine take_off (i := 10) rfl (by kernel_rfl) (by kernel_rfl) (by kernel_rfl) (fun _ _ _ h => h) rfl (by assumption) ?_)
        (try simp only [Act.put, List.setIfInBounds_toArray, List.set_cons_zero, List.set_cons_succ])
        first | (refine take_on (i := 11) (v := ?_) rfl (by kernel_rfl) (by kernel_rfl) (by kernel_rfl) (fun _ _ _ h => h) rfl ?_ (by assumption) ?_; rotate_left; · (intro w' hSw; (try dsimp only at hSw); go_simp; (try with_reducible rfl))) | (refine take_off (i := 11) rfl (by kernel_rfl) (by kernel_rfl) (by kernel_rfl) (fun _ _ _ h => h) rfl (by assumption) ?_)
        (try simp only [Act.put, List.setIfInBounds_toArray, List.set_cons_zero, List.set_cons_succ])
        first | (refine take_on (i := 12) (v := ?_) rfl (by kernel_rfl) (by kernel_rfl) (by kernel_rfl) (fun _ _ _ h => h) rfl ?_ (by assumption) ?_; rotate_left; · (intro w' hSw; (try dsimp only at hSw); go_simp; (try with_reducible rfl))) | (refine take_off (i := 12) rfl (by kernel_rfl) (by kernel_rfl) (by kernel_rfl) (fun _ _ _ h => h) rfl (by assumption) ?_)
        (try simp only [Act.put, List.setIfInBounds_toArray, List.set_cons_zero, List.set_cons_succ])
        first | (refine take_on (i := 13) (v := ?_) rfl (by kernel_rfl) (by kernel_rfl) (by kernel_rfl) (fun _ _ _ h => h) rfl ?_ (by assumption) ?_; rotate_left; · (intro w' hSw; (try dsimp only at hSw); go_simp; (try with_reducible rfl))) | (refine take_off (i := 13) rfl (by kernel_rfl) (by kernel_rfl) (by kernel_rfl) (fun _ _ _ h => h) rfl (by assumption) ?_)
        (try simp only [Act.put, List.setIfInBounds_toArray, List.set_cons_zero, List.set_cons_succ])
        first | (refine take_on (i := 14) (v := ?_) rfl (by kernel_rfl) (by kernel_rfl) (by kernel_rfl) (fun _ _ _ h => h) rfl ?_ (by assumption) ?_; rotate_left; · (intro w' hSw; (try dsimp only at hSw); go_simp; (try with_reducible rfl))) | (refine take_off (i := 14) rfl (by kernel_rfl) (by kernel_rfl) (by kernel_rfl) (fun _ _ _ h => h) rfl (by assumption) ?_)
        (try simp only [Act.put, List.setIfInBounds_toArray, List.set_cons_zero, List.set_cons_succ])
        first | (refine take_on (i := 15) (v := ?_) rfl (by kernel_rfl) (by kernel_rfl) (by kernel_rfl) (fun _ _ _ h => h) rfl ?_ (by assumption) ?_; rotate_left; · (intro w' hSw; (try dsimp only at hSw); go_simp; (try with_reducible rfl))) | (refine take_off (i := 15) rfl (by kernel_rfl) (by kernel_rfl) (by kernel_rfl) (fun _ _ _ h => h) rfl (by assumption) ?_)
        (try simp only [Act.put, List.setIfInBounds_toArray, List.set_cons_zero, List.set_cons_succ])
        first | (refine take_on (i := 16) (v := ?_) rfl (by kernel_rfl) (by kernel_rfl) (by kernel_rfl) (fun _ _ _ h => h) rfl ?_ (by assumption) ?_; rotate_left; · (intro w' hSw; (try dsimp only at hSw); go_simp; (try with_reducible rfl))) | (refine take_off (i := 16) rfl (by kernel_rfl) (by kernel_rfl) (by kernel_rfl) (fun _ _ _ h => h) rfl (by assumption) ?_)
        (try simp only [Act.put, List.setIfInBounds_toArray, List.set_cons_zero, List.set_cons_succ])
        first | (refine take_on (i := 17) (v := ?_) rfl (by kernel_rfl) (by kernel_rfl) (by kernel_rfl) (fun _ _ _ h => h) rfl ?_ (by assumption) ?_; rotate_left; · (intro w' hSw; (try dsimp only at hSw); go_simp; (try with_reducible rfl))) | (refine take_off (i := 17) rfl (by kernel_rfl) (by kernel_rfl) (by kernel_rfl) (fun _ _ _ h => h) rfl (by assumption) ?_)
        (try simp only [Act.put, List.setIfInBounds_toArray, List.set_cons_zero, List.set_cons_succ])
        first | (refine take_on (i := 18) (v := ?_) rfl (by kernel_rfl) (by kernel_rfl) (by kernel_rfl) (fun _ _ _ h => h) rfl ?_ (by assumption) ?_; rotate_left; · (intro w' hSw; (try dsimp only at hSw); go_simp; (try with_reducible rfl))) | (refine take_off (i := 18) rfl (by kernel_rfl) (by kernel_rfl) (by kernel_rfl) (fun _ _ _ h => h) rfl (by assumption) ?_)
        (try simp only [Act.put, List.setIfInBounds_toArray, List.set_cons_zero, List.set_cons_succ])
        first | (refine take_on (i := 19) (v := ?_) rfl (by kernel_rfl) (by kernel_rfl) (by kernel_rfl) (fun _ _ _ h => h) rfl ?_ (by assumption) ?_; rotate_left; · (intro w' hSw; (try dsimp only at hSw); go_simp; (try with_reducible rfl))) | (refine take_off (i := 19) rfl (by kernel_rfl) (by kernel_rfl) (by kernel_rfl) (fun _ _ _ h => h) rfl (by assumption) ?_)
        (try simp only [Act.put, List.setIfInBounds_toArray, List.set_cons_zero, List.set_cons_succ])
        first | (refine take_on (i := 20) (v := ?_) rfl (by kernel_rfl) (by kernel_rfl) (by kernel_rfl) (fun _ _ _ h => h) rfl ?_ (by assumption) ?_; rotate_left; · (intro w' hSw; (try dsimp only at hSw); go_simp; (try with_reducible rfl))) | (refine take_off (i := 20) rfl (by kernel_rfl) (by kernel_rfl) (by kernel_rfl) (fun _ _ _ h => h) rfl (by assumption) ?_)
        (try simp only [Act.put, List.setIfInBounds_toArray, List.set_cons_zero, List.set_cons_succ])
        first | (refine take_on (i := 21) (v := ?_) rfl (by kernel_rfl) (by kernel_rfl) (by kernel_rfl) (fun _ _ _ h => h) rfl ?_ (by assumption) ?_; rotate_left; · (intro w' hSw; (try dsimp only at hSw); go_simp; (try with_reducible rfl))) | (refine take_off (i := 21) rfl (by kernel_rfl) (by kernel_rfl) (by kernel_rfl) (fun _ _ _ h => h) rfl (by assumption) ?_)
        (try simp only [Act.put, List.setIfInBounds_toArray, List.set_cons_zero, List.set_cons_succ])
        first | (refine take_on (i := 22) (v := ?_) rfl (by kernel_rfl) (by kernel_rfl) (by kernel_rfl) (fun _ _ _ h => h) rfl ?_ (by assumption) ?_; rotate_left; · (intro w' hSw; (try dsimp only at hSw); go_simp; (try with_reducible rfl))) | (refine take_off (i := 22) rfl (by kernel_rfl) (by kernel_rfl) (by kernel_rfl) (fun _ _ _ h => h) rfl (by assumption) ?_)
        (try simp only [Act.put, List.setIfInBounds_toArray, List.set_cons_zero, List.set_cons_succ])
        refine wpAnyH_ready (rs := [1, 23]) (by kernel_rfl) (by simp) ?_
        refine AllReadyH.cons rfl (fun K hK => ?_) (AllReadyH.cons rfl (fun K hK => ?_) (AllReadyH.nil))
        · rw [if_pos (by rfl)]
          go_simp
          refine hK.out _ _ ?_ (fun hHeld2 => ?_)
          · (try dsimp only); exact hHeld
          clear hK K hHeld; have hHeld := hHeld2; clear hHeld2; (try simp only [Act.put, List.setIfInBounds_toArray, List.set_cons_zero, List.set_cons_succ])
          refine wpAnyH_ready (rs := [23]) (by kernel_rfl) (by simp) ?_
          refine AllReadyH.cons rfl (fun K hK => ?_) AllReadyH.nil
          rw [if_pos (by rfl)]
          go_simp
          refine hK.out _ _ ?_ (fun hHeld2 => ?_)
          · (try dsimp only); exact S2.mk (by go_grown) (by simp only [World.size_alloc]; omega)
          clear hK K hHeld; have hHeld := hHeld2; clear hHeld2; (try simp only [Act.put, List.setIfInBounds_toArray, List.set_cons_zero, List.set_cons_succ])
          refine wpAnyH_ready (rs := [24]) (by kernel_rfl) (by simp) ?_
          refine AllReadyH.cons rfl (fun K hK => ?_) AllReadyH.nil
          refine step_push elem_pt (by rfl) (.tmp 27) (.tmp 49) 33 (by rfl) Try.underlying33 (w2.heap.size + 1) v (revL xs sm (xs.length - (q + 1))) (turnP sm xs[q]) (by rfl) ((HO.out.alloc _).alloc _) (xs.length - (q + 1)) (revL_len _ _ _) (wr.heap.size + 1) 1 (by rfl) (fun i u hu => ((Bk.new1 wr (.cells #[.int .i64 xs[q].x, .int .i64 xs[q].y, .int .i64 xs[q].t] 44) #[.int .i64 xs[q].x, .int .i64 xs[q].y, .int .i64 (sm - xs[q].t)] 44).cell i).trans (by simpa [ptC, turnP] using hu)) (by have := LA.out; unfold maxLen; omega) (by have := LA.out; omega) (by simp only [World.size_drew, World.size_alloc]; omega) ?_
          intro g5 cap5 w5 hown5 hgrow5 hat5 hlt5 hkeep5
          have hbk5 : Bk w5 w2.heap.size 35 #[v] := (hgrow5.block _ (by simp only [World.size_drew, World.size_alloc]; omega) (fun e => by have h2 := HI.out _ e.symm; omega)).trans h4
          obtain ⟨e5, f5⟩ := bk1 hbk5
          have hz5 := hgrow5.size
          simp only [World.size_drew, World.size_alloc] at hz5
          have hgl5 := hbk5.lt
          refine hK.out _ _ ?_ (fun hHeld2 => ?_)
          · (try dsimp only); exact S2.push hHeld hgrow5 (fun k hk => by have h2 := HI.out k hk; omega) (by simp only [World.size_drew, World.size_alloc]; omega)
          clear hK K hHeld; have hHeld := hHeld2; clear hHeld2; (try simp only [Act.put, List.setIfInBounds_toArray, List.set_cons_zero, List.set_cons_succ])
          first | (refine take_on (i := 25) (v := ?_) rfl (by kernel_rfl) (by kernel_rfl) (by kernel_rfl) (fun _ _ _ h => h) rfl ?_ (by assumption) ?_; rotate_left; · (intro w' hSw; (try dsimp only at hSw); go_simp; (try with_reducible rfl))) | (refine take_off (i := 25) rfl (by kernel_rfl) (by kernel_rfl) (by kernel_rfl) (fun _ _ _ h => h) rfl (by assumption) ?_)
          (try simp only [Act.put, List.setIfInBounds_toArray, List.set_cons_zero, List.set_cons_succ])
          refine wpAnyH_ready (rs := [26]) (by kernel_rfl) (by simp) ?_
          refine AllReadyH.cons rfl (fun K hK => ?_) AllReadyH.nil
          rw [if_pos (by rfl)]
          go_simp
          refine hK.out _ _ ?_ (fun hHeld2 => ?_)
          · (try dsimp only); exact S2.store hHeld _
          clear hK K hHeld; have hHeld := hHeld2; clear hHeld2; (try simp only [Act.put, List.setIfInBounds_toArray, List.set_cons_zero, List.set_cons_succ])
          refine wpAnyH_done (by kernel_rfl) ?_ _
          have hS := hHeld.2.2
          clear hHeld
          go_wp2_with fail
          go_roundw
          case rel =>
            refine ⟨q, _, _, by omega, rfl, by go_num, bk1_put hbk5, ?_, ?_⟩
            · rw [hrn.out]; exact hown5.setCell _ _ (fun k hk => by have h1 := hown5.lt k hk; simp only [ne_eq]; omega)
            · have hG : Below w2.heap.size w2 (wr.alloc (.cells #[.int .i64 xs[q].x, .int .i64 xs[q].y, .int .i64 xs[q].t] 44)) := hB.alloc (by omega) _
              exact hG.trans hS
          case measure => (simp [intOf]; try omega)
        · rw [if_pos (by rfl)]
          go_simp
          refine hK.out _ _ ?_ (fun hHeld2 => ?_)
          · (try dsimp only); exact S2.mk (by go_grown) (by simp only [World.size_alloc]; omega)
          clear hK K hHeld; have hHeld := hHeld2; clear hHeld2; (try simp only [Act.put, List.setIfInBounds_toArray, List.set_cons_zero, List.set_cons_succ])
          refine wpAnyH_ready (rs := [1]) (by kernel_rfl) (by simp) ?_
          refine AllReadyH.cons rfl (fun K hK => ?_) AllReadyH.nil
          rw [if_pos (by rfl)]
          go_simp
          refine hK.out _ _ ?_ (fun hHeld2 => ?_)
          · (try dsimp only); exact hHeld
          clear hK K hHeld; have hHeld := hHeld2; clear hHeld2; (try simp only [Act.put, List.setIfInBounds_toArray, List.set_cons_zero, List.set_cons_succ])
          refine wpAnyH_ready (rs := [24]) (by kernel_rfl) (by simp) ?_
          refine AllReadyH.cons rfl (fun K hK => ?_) AllReadyH.nil
          refine step_push elem_pt (by rfl) (.tmp 27) (.tmp 49) 33 (by rfl) Try.underlying33 (w2.heap.size + 1) v (revL xs sm (xs.length - (q + 1))) (turnP sm xs[q]) (by rfl) ((HO.out.alloc _).alloc _) (xs.length - (q + 1)) (revL_len _ _ _) (wr.heap.size + 1) 1 (by rfl) (fun i u hu => ((Bk.new1 wr (.cells #[.int .i64 xs[q].x, .int .i64 xs[q].y, .int .i64 xs[q].t] 44) #[.int .i64 xs[q].x, .int .i64 xs[q].y, .int .i64 (sm - xs[q].t)] 44).cell i).trans (by simpa [ptC, turnP] using hu)) (by have := LA.out; unfold maxLen; omega) (by have := LA.out; omega) (by simp only [World.size_drew, World.size_alloc]; omega) ?_
          intro g5 cap5 w5 hown5 hgrow5 hat5 hlt5 hkeep5
          have hbk5 : Bk w5 w2.heap.size 35 #[v] := (hgrow5.block _ (by simp only [World.size_drew, World.size_alloc]; omega) (fun e => by have h2 := HI.out _ e.symm; omega)).trans h4
          obtain ⟨e5, f5⟩ := bk1 hbk5
          have hz5 := hgrow5.size
          simp only [World.size_drew, World.size_alloc] at hz5
          have hgl5 := hbk5.lt
          refine hK.out _ _ ?_ (fun hHeld2 => ?_)
          · (try dsimp only); exact S2.push hHeld hgrow5 (fun k hk => by have h2 := HI.out k hk; omega) (by simp only [World.size_drew, World.size_alloc]; omega)
          clear hK K hHeld; have hHeld := hHeld2; clear hHeld2; (try simp only [Act.put, List.setIfInBounds_toArray, List.set_cons_zero, List.set_cons_succ])
          first | (refine take_on (i := 25) (v := ?_) rfl (by kernel_rfl) (by kernel_rfl) (by kernel_rfl) (fun _ _ _ h => h) rfl ?_ (by assumption) ?_; rotate_left; · (intro w' hSw; (try dsimp only at hSw); go_simp; (try with_reducible rfl))) | (refine take_off (i := 25) rfl (by kernel_rfl) (by kernel_rfl) (by kernel_rfl) (fun _ _ _ h => h) rfl (by assumption) ?_)
          (try simp only [Act.put, List.setIfInBounds_toArray, List.set_cons_zero, List.set_cons_succ])
          refine wpAnyH_ready (rs := [26]) (by kernel_rfl) (by simp) ?_
          refine AllReadyH.cons rfl (fun K hK => ?_) AllReadyH.nil
          rw [if_pos (by rfl)]
          go_simp
          refine hK.out _ _ ?_ (fun hHeld2 => ?_)
          · (try dsimp only); exact S2.store hHeld _
          clear hK K hHeld; have hHeld := hHeld2; clear hHeld2; (try simp only [Act.put, List.setIfInBounds_toArray, List.set_cons_zero, List.set_cons_succ])
          refine wpAnyH_done (by kernel_rfl) ?_ _
          have hS := hHeld.2.2
          clear hHeld
          go_wp2_with fail
          go_roundw
          case rel =>
            refine ⟨q, _, _, by omega, rfl, by go_num, bk1_put hbk5, ?_, ?_⟩
            · rw [hrn.out]; exact hown5.setCell _ _ (fun k hk => by have h1 := hown5.lt k hk; simp only [ne_eq]; omega)
            · have hG : Below w2.heap.size w2 (wr.alloc (.cells #[.int .i64 xs[q].x, .int .i64 xs[q].y, .int .i64 xs[q].t] 44)) := hB.alloc (by omega) _
              exact hG.trans hS
          case measure => (simp [intOf]; try omega)
end Go.Proofs.Ytcglcfjonicjgaa
