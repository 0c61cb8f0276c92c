/-
  Inks moved: the program's mapInk with its closure.
-/
import Derived.Test.YtnmmnikoogjhoaaMapInk
import Derived.Test.YtnmmnikoogjhoaaInkOk
namespace Go.Proofs.Ytnmmnikoogjhoaa
set_option linter.unusedSimpArgs false
set_option linter.unusedVariables false
set_option maxRecDepth 20000
open Go.RowKit
open Go.ChangeShapes Go.WideShapes Go.Deep Go.Joins

set_option maxHeartbeats 4000000 in
theorem movePt_any {p q : Pt} {dx dy : Int} (hq : Hid (mvP dx dy p = q)) (hp : Hid (ptB p = true)) (hx : -4095 ≤ dx ∧ dx ≤ 4095) (hy : -4095 ≤ dy ∧ dy ≤ 4095) (bx by_ : Nat) (w : World) (cx : w.cell? ⟨bx, 0, none⟩ = some (.int .i64 dx)) (cy : w.cell? ⟨by_, 0, none⟩ = some (.int .i64 dy)) :
    Calls Try.prog 62 #[.agg #[.int .i64 p.x, .int .i64 p.y, .int .i64 p.t], .pointer (some ⟨bx, 0, none⟩), .pointer (some ⟨by_, 0, none⟩)] w fun e w' => e = .returned (.agg #[.int .i64 q.x, .int .i64 q.y, .int .i64 q.t]) ∧ Below w.heap.size w w' := by
  have e : mvP dx dy p = q := hq.out
  subst e
  obtain ⟨h1, h2, h3⟩ := ptB_true hp.out
  obtain ⟨hx1, hx2⟩ := hx
  obtain ⟨hy1, hy2⟩ := hy
  have lx : bx < w.heap.size := block_lt_of_cell cx
  have ly : by_ < w.heap.size := block_lt_of_cell cy
  clear hq hp
  go_enter Try.func62, Try.ntmps62
  go_wp2_with fail
  refine bodyPost_ret (by simp [results, Try.results62, go_sem, *]; try rfl) rfl ?_
  exact ⟨rfl, by go_grown⟩

set_option maxHeartbeats 16000000 in
theorem mapM_any (A : Option Addr) (n c : Nat) (S : List St) (bx by_ : Nat) (dx dy : Int)  (w : World) (h : InkRd w A n S) (hs : ∀ s ∈ S, s.l.length ≤ 1048576) (hn : n ≤ 1048576) (hv : ∀ s ∈ S, ptsB s.l) (hx : -4095 ≤ dx ∧ dx ≤ 4095) (hy : -4095 ≤ dy ∧ dy ≤ 4095) (cx : w.cell? ⟨bx, 0, none⟩ = some (.int .i64 dx)) (cy : w.cell? ⟨by_, 0, none⟩ = some (.int .i64 dy)) :
    Calls Try.prog 61 #[.agg #[.slice A n c], .func (.func 62) #[] #[.pointer (some ⟨bx, 0, none⟩), .pointer (some ⟨by_, 0, none⟩)]] w fun e w' => ∃ A2 c2 T, e = .returned (.agg #[.slice A2 n c2]) ∧ ptsOf T = mapP (mvP dx dy) (ptsOf S) ∧ InkOwn w' w.heap.size w'.heap.size (.slice A2 n c2) T ∧ Below w.heap.size w w' := by
  have HA := Lib.hid h
  have LA := Lib.hid h.len
  clear h
  have lx : bx < w.heap.size := block_lt_of_cell cx
  have ly : by_ < w.heap.size := block_lt_of_cell cy
  have CX := Lib.hid cx
  have CY := Lib.hid cy
  clear cx cy
  go_enter Try.func61, Try.ntmps61
  go_wp2_with fail
  go_loopw [14] (fun i wo => ∃ (k : Nat) (v : Value) (T : List St), k ≤ n ∧ i = .int .i64 (k : Int) ∧ Bk wo (w.heap.size + 1 + 1) 29 #[v] ∧ Hid (T.length = k) ∧ Hid (ptsOf T = (mapP (mvP dx dy) (ptsOf S)).take k) ∧ Hid (InkOwn wo ((w.heap.size + 1 + 1) + 1) wo.heap.size v T) ∧ Below (w.heap.size + 1 + 1) (((w.alloc (.cells #[.slice A n c] 29)).alloc (.cells #[.slice none 0 0] 29)).alloc (.cells #[.slice none 0 0] 29)) wo) (fun i _ => n - (intOf i).toNat)
  case atStart => exact ⟨0, .slice none 0 0, [], Nat.zero_le _, rfl, Bk.new2 w _ _ _ _, rfl, rfl, InkOwn.nil _ _ _, Below.refl _ _⟩
  case round =>
    obtain ⟨wo, rfl⟩ : ∃ wo, wo = wr := ⟨wr, rfl⟩
    obtain ⟨k, v, T, hk, rfl, hbk, hT, hpt, hin, hW⟩ := hrel
    have hWs := hW.size
    simp only [World.size_alloc] at hWs
    have hW0 : Below w.heap.size w wo := (by go_grown : Below w.heap.size w (((w.alloc (.cells #[.slice A n c] 29)).alloc (.cells #[.slice none 0 0] 29)).alloc (.cells #[.slice none 0 0] 29))).trans (hW.mono (by omega))
    obtain ⟨eo, fo⟩ := bk1 hbk
    have hgl := hbk.lt
    by_cases hlt : k < n
    · have ka : k < S.length := by have := LA.out; omega
      obtain ⟨b1, o1, rfl, l1, c1, p1⟩ := (HA.out.below hW0).at ka
      have hsl := hs _ (List.getElem_mem ka)
      have P1 := Lib.hid ((p1.alloc (.cells #[.slice S[k].A S[k].l.length S[k].c] 52)).alloc (.cells #[.slice none 0 0] 52))
      have hI0 := Bk.new1 wo (.cells #[.slice S[k].A S[k].l.length S[k].c] 52) #[.slice none 0 0] 52
      have HI0 := Lib.hid hI0
      clear p1 hI0
      go_wp2_with fail
      go_loopw [21] (fun i wr => ∃ (j : Nat) (u : Value), j ≤ S[k].l.length ∧ i = .int .i64 (j : Int) ∧ Bk wr (wo.heap.size + 1) 52 #[u] ∧ Own ptC 72 3 wr ((wo.heap.size + 1) + 1) u (doneP (mvP dx dy) S[k].l j) ∧ Below (wo.heap.size + 1) ((wo.alloc (.cells #[.slice S[k].A S[k].l.length S[k].c] 52)).alloc (.cells #[.slice none 0 0] 52)) wr) (fun i _ => S[k].l.length - (intOf i).toNat)
      case atStart => exact ⟨0, .slice none 0 0, Nat.zero_le _, rfl, HI0.out, Own.nil _ _ _ _ _, Below.refl _ _⟩
      case round =>
        obtain ⟨j, u, hj, rfl, hbk2, hown, hB⟩ := hrel
        have hgl2 := hbk2.lt
        have hBs := hB.size
        simp only [World.size_alloc] at hBs
        have HO := Lib.hid hown
        have HI : Hid (∀ k, u.ownBlock = some k → (wo.heap.size + 1) + 1 ≤ k ∧ k < wr.heap.size) := hown.lt
        obtain ⟨e0, f0⟩ := bk1 hbk2
        clear hown
        by_cases hjlt : j < S[k].l.length
        · have hB0 : Below wo.heap.size wo wr := (by go_grown : Below wo.heap.size wo ((wo.alloc (.cells #[.slice S[k].A S[k].l.length S[k].c] 52)).alloc (.cells #[.slice none 0 0] 52))).trans (hB.mono (by omega))
          have HP : Hid (Rd wr S[k].A S[k].l.length 3 (rowOf ptC S[k].l)) := ((HA.out.pts _ (List.getElem_mem ka)).below hW0).below hB0
          obtain ⟨b3, o3, e3, l3, a1, a2, a3⟩ := HP.out.pt rfl hjlt
          obtain ⟨q, hq0⟩ : ∃ q, (mvP dx dy) S[k].l[j] = q := ⟨_, rfl⟩
          have HN : Hid (doneP (mvP dx dy) S[k].l (j + 1) = doneP (mvP dx dy) S[k].l j ++ [q]) := doneP_next _ hjlt hq0
          have hq := Lib.hid hq0
          have E3 := Lib.hid e3
          clear hq0
          have hj0 : (0 : Int) ≤ (j : Int) := by omega
          have hjn : (j : Int) < (S[k].l.length : Int) := by omega
          have hu1 : ¬ u.ownBlock = some wr.heap.size := fun e => by have h2 := HI.out _ e; omega
          have hb3 : ¬ wr.heap.size = (wo.heap.size + 1) := by omega
          rw [e3]
          clear e3
          have hp : Hid (ptB S[k].l[j] = true) := hv _ (List.getElem_mem ka) j hjlt
          have hws : w.heap.size ≤ wo.heap.size := hW0.size
          have hwr : wo.heap.size ≤ wr.heap.size := hB0.size
          have lx2 : bx < wr.heap.size := by omega
          have ly2 : by_ < wr.heap.size := by omega
          have cx : wr.cell? ⟨bx, 0, none⟩ = some (.int .i64 dx) := (hB0.cell (p := ⟨bx, 0, none⟩) (show bx < wo.heap.size by omega)).trans ((hW0.cell (p := ⟨bx, 0, none⟩) lx).trans CX.out)
          have cy : wr.cell? ⟨by_, 0, none⟩ = some (.int .i64 dy) := (hB0.cell (p := ⟨by_, 0, none⟩) (show by_ < wo.heap.size by omega)).trans ((hW0.cell (p := ⟨by_, 0, none⟩) ly).trans CY.out)
          go_wp2_with fail
          refine wp_region_held_drew (S := (fun w' => (∀ kb ko, kb < (wr.alloc (.cells #[.int .i64 S[k].l[j].x, .int .i64 S[k].l[j].y, .int .i64 S[k].l[j].t] 72)).heap.size → ¬ u.ownBlock = some kb → ¬ kb = (wo.heap.size + 1) → w'.cell? ⟨kb, ko, none⟩ = (wr.alloc (.cells #[.int .i64 S[k].l[j].x, .int .i64 S[k].l[j].y, .int .i64 S[k].l[j].t] 72)).cell? ⟨kb, ko, none⟩) ∧ (wr.alloc (.cells #[.int .i64 S[k].l[j].x, .int .i64 S[k].l[j].y, .int .i64 S[k].l[j].t] 72)).heap.size ≤ w'.heap.size ∧ Below (wo.heap.size + 1) (wr.alloc (.cells #[.int .i64 S[k].l[j].x, .int .i64 S[k].l[j].y, .int .i64 S[k].l[j].t] 72)) w')) (by kernel_rfl) ?_ (fun hHeld => ?_)
          · (try dsimp only); exact S2.mk ((Below.refl _ _).drew) (by simp only [World.size_alloc]; omega)
          first | (refine take_on (i := 0) (v := ?_) rfl (by kernel_rfl) (by kernel_rfl) (by kernel_rfl) (fun _ _ _ h => h) rfl ?_ (by assumption) ?_; rotate_left; · (intro w' hSw; (try dsimp only at hSw); go_simp; (try with_reducible rfl))) | (refine take_off (i := 0) rfl (by kernel_rfl) (by kernel_rfl) (by kernel_rfl) (fun _ _ _ h => h) rfl (by assumption) ?_)
          (try simp only [Act.put, List.setIfInBounds_toArray, List.set_cons_zero, List.set_cons_succ])
          first | (refine take_on (i := 2) (v := ?_) rfl (by kernel_rfl) (by kernel_rfl) (by kernel_rfl) (fun _ _ _ h => h) rfl ?_ (by assumption) ?_; rotate_left; · (intro w' hSw; (try dsimp only at hSw); go_simp; (try with_reducible rfl))) | (refine take_off (i := 2) rfl (by kernel_rfl) (by kernel_rfl) (by kernel_rfl) (fun _ _ _ h => h) rfl (by assumption) ?_)
          (try simp only [Act.put, List.setIfInBounds_toArray, List.set_cons_zero, List.set_cons_succ])
          first | (refine take_on (i := 3) (v := ?_) rfl (by kernel_rfl) (by kernel_rfl) (by kernel_rfl) (fun _ _ _ h => h) rfl ?_ (by assumption) ?_; rotate_left; · (intro w' hSw; (try dsimp only at hSw); go_simp; (try with_reducible rfl))) | (refine take_off (i := 3) rfl (by kernel_rfl) (by kernel_rfl) (by kernel_rfl) (fun _ _ _ h => h) rfl (by assumption) ?_)
          (try simp only [Act.put, List.setIfInBounds_toArray, List.set_cons_zero, List.set_cons_succ])
          refine wpAnyH_ready (rs := [1, 4]) (by kernel_rfl) (by simp) ?_
          refine AllReadyH.cons rfl (fun K hK => ?_) (AllReadyH.cons rfl (fun K hK => ?_) (AllReadyH.nil))
          · rw [if_pos (by rfl)]
            go_simp
            refine hK.out _ _ ?_ (fun hHeld2 => ?_)
            · (try dsimp only); exact hHeld
            clear hK K hHeld; have hHeld := hHeld2; clear hHeld2; (try simp only [Act.put, List.setIfInBounds_toArray, List.set_cons_zero, List.set_cons_succ])
            refine wpAnyH_ready (rs := [4]) (by kernel_rfl) (by simp) ?_
            refine AllReadyH.cons rfl (fun K hK => ?_) AllReadyH.nil
            rw [if_pos (by rfl)]
            go_simp
            go_at_call 62
            (with_reducible refine (movePt_any hq hp hx hy bx by_ _ (by go_simp) (by go_simp)).mono ?_)
            rintro e w4 ⟨rfl, hb4⟩
            have hB4 : Below (wr.alloc (.cells #[.int .i64 S[k].l[j].x, .int .i64 S[k].l[j].y, .int .i64 S[k].l[j].t] 72)).heap.size (wr.alloc (.cells #[.int .i64 S[k].l[j].x, .int .i64 S[k].l[j].y, .int .i64 S[k].l[j].t] 72)) w4 := Below.next (by go_grown) hb4
            have hz4 := hB4.size
            have hz4' := hz4
            simp only [World.size_alloc] at hz4'
            have HO4 : Hid (Own ptC 72 3 w4 ((wo.heap.size + 1) + 1) u (doneP (mvP dx dy) S[k].l j)) := ((HO.out.alloc (.cells #[.int .i64 S[k].l[j].x, .int .i64 S[k].l[j].y, .int .i64 S[k].l[j].t] 72)).next hB4)
            have hbk4 : Bk w4 (wo.heap.size + 1) 52 #[u] := (hbk2.alloc (.cells #[.int .i64 S[k].l[j].x, .int .i64 S[k].l[j].y, .int .i64 S[k].l[j].t] 72)).next hB4
            obtain ⟨e4, f4⟩ := bk1 hbk4
            have hgl4 := hbk4.lt
            refine hK.out _ _ ?_ (fun hHeld2 => ?_)
            · (try dsimp only); exact S2.mk hB4 (by simp only [World.size_alloc]; omega)
            clear hK K hHeld; have hHeld := hHeld2; clear hHeld2; (try simp only [Act.put, List.setIfInBounds_toArray, List.set_cons_zero, List.set_cons_succ])
            refine wpAnyH_ready (rs := [5]) (by kernel_rfl) (by simp) ?_
            refine AllReadyH.cons rfl (fun K hK => ?_) AllReadyH.nil
            rw [if_pos (by rfl)]
            go_simp
            refine hK.out _ _ ?_ (fun hHeld2 => ?_)
            · (try dsimp only); exact S2.mk (hB4.alloc hz4 _) (by simp only [World.size_alloc]; omega)
            clear hK K hHeld; have hHeld := hHeld2; clear hHeld2; (try simp only [Act.put, List.setIfInBounds_toArray, List.set_cons_zero, List.set_cons_succ])
            refine wpAnyH_ready (rs := [6]) (by kernel_rfl) (by simp) ?_
            refine AllReadyH.cons rfl (fun K hK => ?_) AllReadyH.nil
            refine step_push elem_pt (by rfl) (.tmp 26) (.tmp 30) 50 (by rfl) Try.underlying50 ((wo.heap.size + 1) + 1) u (doneP (mvP dx dy) S[k].l j) q (by rfl) (HO4.out.alloc _) j (doneP_len _ (Nat.le_of_lt hjlt)) w4.heap.size 1 (by rfl) (fun i u hu => ((Bk.new w4 #[.int .i64 q.x, .int .i64 q.y, .int .i64 q.t] 72).cell i).trans (by simpa [ptC] using hu)) (by unfold maxLen; omega) (by omega) (by simp only [World.size_alloc]; omega) ?_
            intro g5 cap5 w5 hown5 hgrow5 hat5 hlt5 hkeep5
            have hbk5 : Bk w5 (wo.heap.size + 1) 52 #[u] := (hgrow5.block _ (by simp only [World.size_alloc]; omega) (fun e => by have h2 := HI.out _ e.symm; omega)).trans (hbk4.alloc _)
            obtain ⟨e5, f5⟩ := bk1 hbk5
            have hz5 := hgrow5.size
            simp only [World.size_alloc] at hz5
            have hgl5 := hbk5.lt
            refine hK.out _ _ ?_ (fun hHeld2 => ?_)
            · (try dsimp only); exact S2.push hHeld hgrow5 (fun k hk => by have h2 := HI.out k hk; omega) (by simp only [World.size_alloc]; omega)
            clear hK K hHeld; have hHeld := hHeld2; clear hHeld2; (try simp only [Act.put, List.setIfInBounds_toArray, List.set_cons_zero, List.set_cons_succ])
            first | (refine take_on (i := 7) (v := ?_) rfl (by kernel_rfl) (by kernel_rfl) (by kernel_rfl) (fun _ _ _ h => h) rfl ?_ (by assumption) ?_; rotate_left; · (intro w' hSw; (try dsimp only at hSw); go_simp; (try with_reducible rfl))) | (refine take_off (i := 7) rfl (by kernel_rfl) (by kernel_rfl) (by kernel_rfl) (fun _ _ _ h => h) rfl (by assumption) ?_)
            (try simp only [Act.put, List.setIfInBounds_toArray, List.set_cons_zero, List.set_cons_succ])
            refine wpAnyH_ready (rs := [8]) (by kernel_rfl) (by simp) ?_
            refine AllReadyH.cons rfl (fun K hK => ?_) AllReadyH.nil
            rw [if_pos (by rfl)]
            go_simp
            refine hK.out _ _ ?_ (fun hHeld2 => ?_)
            · (try dsimp only); exact S2.store hHeld _
            clear hK K hHeld; have hHeld := hHeld2; clear hHeld2; (try simp only [Act.put, List.setIfInBounds_toArray, List.set_cons_zero, List.set_cons_succ])
            refine wpAnyH_done (by kernel_rfl) ?_ _
            have hS := hHeld.2.2
            clear hHeld
            go_wp2_with fail
            go_roundw
            case rel =>
              refine ⟨j + 1, _, by omega, by go_num, bk1_put hbk5, ?_, ?_⟩
              · rw [HN.out]; exact hown5.setCell _ _ (fun k hk => by have h1 := hown5.lt k hk; simp only [ne_eq]; omega)
              · have hG : Below (wo.heap.size + 1) ((wo.alloc (.cells #[.slice S[k].A S[k].l.length S[k].c] 52)).alloc (.cells #[.slice none 0 0] 52)) (wr.alloc (.cells #[.int .i64 S[k].l[j].x, .int .i64 S[k].l[j].y, .int .i64 S[k].l[j].t] 72)) := hB.alloc (by omega) _
                rw [E3.out] at hG
                exact hG.trans hS
            case measure => (simp [intOf]; try omega)
          · rw [if_pos (by rfl)]
            go_simp
            go_at_call 62
            (with_reducible refine (movePt_any hq hp hx hy bx by_ _ (by go_simp) (by go_simp)).mono ?_)
            rintro e w4 ⟨rfl, hb4⟩
            have hB4 : Below (wr.alloc (.cells #[.int .i64 S[k].l[j].x, .int .i64 S[k].l[j].y, .int .i64 S[k].l[j].t] 72)).heap.size (wr.alloc (.cells #[.int .i64 S[k].l[j].x, .int .i64 S[k].l[j].y, .int .i64 S[k].l[j].t] 72)) w4 := Below.next (by go_grown) hb4
            have hz4 := hB4.size
            have hz4' := hz4
            simp only [World.size_alloc] at hz4'
            have HO4 : Hid (Own ptC 72 3 w4 ((wo.heap.size + 1) + 1) u (doneP (mvP dx dy) S[k].l j)) := ((HO.out.alloc (.cells #[.int .i64 S[k].l[j].x, .int .i64 S[k].l[j].y, .int .i64 S[k].l[j].t] 72)).next hB4)
            have hbk4 : Bk w4 (wo.heap.size + 1) 52 #[u] := (hbk2.alloc (.cells #[.int .i64 S[k].l[j].x, .int .i64 S[k].l[j].y, .int .i64 S[k].l[j].t] 72)).next hB4
            obtain ⟨e4, f4⟩ := bk1 hbk4
            have hgl4 := hbk4.lt
            refine hK.out _ _ ?_ (fun hHeld2 => ?_)
            · (try dsimp only); exact S2.mk hB4 (by simp only [World.size_alloc]; omega)
            clear hK K hHeld; have hHeld := hHeld2; clear hHeld2; (try simp only [Act.put, List.setIfInBounds_toArray, List.set_cons_zero, List.set_cons_succ])
            refine wpAnyH_ready (rs := [1, 5]) (by kernel_rfl) (by simp) ?_
            refine AllReadyH.cons rfl (fun K hK => ?_) (AllReadyH.cons rfl (fun K hK => ?_) (AllReadyH.nil))
            · rw [if_pos (by rfl)]
              go_simp
              refine hK.out _ _ ?_ (fun hHeld2 => ?_)
              · (try dsimp only); exact hHeld
              clear hK K hHeld; have hHeld := hHeld2; clear hHeld2; (try simp only [Act.put, List.setIfInBounds_toArray, List.set_cons_zero, List.set_cons_succ])
              refine wpAnyH_ready (rs := [5]) (by kernel_rfl) (by simp) ?_
              refine AllReadyH.cons rfl (fun K hK => ?_) AllReadyH.nil
              rw [if_pos (by rfl)]
              go_simp
              refine hK.out _ _ ?_ (fun hHeld2 => ?_)
              · (try dsimp only); exact S2.mk (hB4.alloc hz4 _) (by simp only [World.size_alloc]; omega)
              clear hK K hHeld; have hHeld := hHeld2; clear hHeld2; (try simp only [Act.put, List.setIfInBounds_toArray, List.set_cons_zero, List.set_cons_succ])
              refine wpAnyH_ready (rs := [6]) (by kernel_rfl) (by simp) ?_
              refine AllReadyH.cons rfl (fun K hK => ?_) AllReadyH.nil
              refine step_push elem_pt (by rfl) (.tmp 26) (.tmp 30) 50 (by rfl) Try.underlying50 ((wo.heap.size + 1) + 1) u (doneP (mvP dx dy) S[k].l j) q (by rfl) (HO4.out.alloc _) j (doneP_len _ (Nat.le_of_lt hjlt)) w4.heap.size 1 (by rfl) (fun i u hu => ((Bk.new w4 #[.int .i64 q.x, .int .i64 q.y, .int .i64 q.t] 72).cell i).trans (by simpa [ptC] using hu)) (by unfold maxLen; omega) (by omega) (by simp only [World.size_alloc]; omega) ?_
              intro g5 cap5 w5 hown5 hgrow5 hat5 hlt5 hkeep5
              have hbk5 : Bk w5 (wo.heap.size + 1) 52 #[u] := (hgrow5.block _ (by simp only [World.size_alloc]; omega) (fun e => by have h2 := HI.out _ e.symm; omega)).trans (hbk4.alloc _)
              obtain ⟨e5, f5⟩ := bk1 hbk5
              have hz5 := hgrow5.size
              simp only [World.size_alloc] at hz5
              have hgl5 := hbk5.lt
              refine hK.out _ _ ?_ (fun hHeld2 => ?_)
              · (try dsimp only); exact S2.push hHeld hgrow5 (fun k hk => by have h2 := HI.out k hk; omega) (by simp only [World.size_alloc]; omega)
              clear hK K hHeld; have hHeld := hHeld2; clear hHeld2; (try simp only [Act.put, List.setIfInBounds_toArray, List.set_cons_zero, List.set_cons_succ])
              first | (refine take_on (i := 7) (v := ?_) rfl (by kernel_rfl) (by kernel_rfl) (by kernel_rfl) (fun _ _ _ h => h) rfl ?_ (by assumption) ?_; rotate_left; · (intro w' hSw; (try dsimp only at hSw); go_simp; (try with_reducible rfl))) | (refine take_off (i := 7) rfl (by kernel_rfl) (by kernel_rfl) (by kernel_rfl) (fun _ _ _ h => h) rfl (by assumption) ?_)
              (try simp only [Act.put, List.setIfInBounds_toArray, List.set_cons_zero, List.set_cons_succ])
              refine wpAnyH_ready (rs := [8]) (by kernel_rfl) (by simp) ?_
              refine AllReadyH.cons rfl (fun K hK => ?_) AllReadyH.nil
              rw [if_pos (by rfl)]
              go_simp
              refine hK.out _ _ ?_ (fun hHeld2 => ?_)
              · (try dsimp only); exact S2.store hHeld _
              clear hK K hHeld; have hHeld := hHeld2; clear hHeld2; (try simp only [Act.put, List.setIfInBounds_toArray, List.set_cons_zero, List.set_cons_succ])
              refine wpAnyH_done (by kernel_rfl) ?_ _
              have hS := hHeld.2.2
              clear hHeld
              go_wp2_with fail
              go_roundw
              case rel =>
                refine ⟨j + 1, _, by omega, by go_num, bk1_put hbk5, ?_, ?_⟩
                · rw [HN.out]; exact hown5.setCell _ _ (fun k hk => by have h1 := hown5.lt k hk; simp only [ne_eq]; omega)
                · have hG : Below (wo.heap.size + 1) ((wo.alloc (.cells #[.slice S[k].A S[k].l.length S[k].c] 52)).alloc (.cells #[.slice none 0 0] 52)) (wr.alloc (.cells #[.int .i64 S[k].l[j].x, .int .i64 S[k].l[j].y, .int .i64 S[k].l[j].t] 72)) := hB.alloc (by omega) _
                  rw [E3.out] at hG
                  exact hG.trans hS
              case measure => (simp [intOf]; try omega)
            · rw [if_pos (by rfl)]
              go_simp
              refine hK.out _ _ ?_ (fun hHeld2 => ?_)
              · (try dsimp only); exact S2.mk (hB4.alloc hz4 _) (by simp only [World.size_alloc]; omega)
              clear hK K hHeld; have hHeld := hHeld2; clear hHeld2; (try simp only [Act.put, List.setIfInBounds_toArray, List.set_cons_zero, List.set_cons_succ])
              refine wpAnyH_ready (rs := [1]) (by kernel_rfl) (by simp) ?_
              refine AllReadyH.cons rfl (fun K hK => ?_) AllReadyH.nil
              rw [if_pos (by rfl)]
              go_simp
              refine hK.out _ _ ?_ (fun hHeld2 => ?_)
              · (try dsimp only); exact hHeld
              clear hK K hHeld; have hHeld := hHeld2; clear hHeld2; (try simp only [Act.put, List.setIfInBounds_toArray, List.set_cons_zero, List.set_cons_succ])
              refine wpAnyH_ready (rs := [6]) (by kernel_rfl) (by simp) ?_
              refine AllReadyH.cons rfl (fun K hK => ?_) AllReadyH.nil
              refine step_push elem_pt (by rfl) (.tmp 26) (.tmp 30) 50 (by rfl) Try.underlying50 ((wo.heap.size + 1) + 1) u (doneP (mvP dx dy) S[k].l j) q (by rfl) (HO4.out.alloc _) j (doneP_len _ (Nat.le_of_lt hjlt)) w4.heap.size 1 (by rfl) (fun i u hu => ((Bk.new w4 #[.int .i64 q.x, .int .i64 q.y, .int .i64 q.t] 72).cell i).trans (by simpa [ptC] using hu)) (by unfold maxLen; omega) (by omega) (by simp only [World.size_alloc]; omega) ?_
              intro g5 cap5 w5 hown5 hgrow5 hat5 hlt5 hkeep5
              have hbk5 : Bk w5 (wo.heap.size + 1) 52 #[u] := (hgrow5.block _ (by simp only [World.size_alloc]; omega) (fun e => by have h2 := HI.out _ e.symm; omega)).trans (hbk4.alloc _)
              obtain ⟨e5, f5⟩ := bk1 hbk5
              have hz5 := hgrow5.size
              simp only [World.size_alloc] at hz5
              have hgl5 := hbk5.lt
              refine hK.out _ _ ?_ (fun hHeld2 => ?_)
              · (try dsimp only); exact S2.push hHeld hgrow5 (fun k hk => by have h2 := HI.out k hk; omega) (by simp only [World.size_alloc]; omega)
              clear hK K hHeld; have hHeld := hHeld2; clear hHeld2; (try simp only [Act.put, List.setIfInBounds_toArray, List.set_cons_zero, List.set_cons_succ])
              first | (refine take_on (i := 7) (v := ?_) rfl (by kernel_rfl) (by kernel_rfl) (by kernel_rfl) (fun _ _ _ h => h) rfl ?_ (by assumption) ?_; rotate_left; · (intro w' hSw; (try dsimp only at hSw); go_simp; (try with_reducible rfl))) | (refine take_off (i := 7) rfl (by kernel_rfl) (by kernel_rfl) (by kernel_rfl) (fun _ _ _ h => h) rfl (by assumption) ?_)
              (try simp only [Act.put, List.setIfInBounds_toArray, List.set_cons_zero, List.set_cons_succ])
              refine wpAnyH_ready (rs := [8]) (by kernel_rfl) (by simp) ?_
              refine AllReadyH.cons rfl (fun K hK => ?_) AllReadyH.nil
              rw [if_pos (by rfl)]
              go_simp
              refine hK.out _ _ ?_ (fun hHeld2 => ?_)
              · (try dsimp only); exact S2.store hHeld _
              clear hK K hHeld; have hHeld := hHeld2; clear hHeld2; (try simp only [Act.put, List.setIfInBounds_toArray, List.set_cons_zero, List.set_cons_succ])
              refine wpAnyH_done (by kernel_rfl) ?_ _
              have hS := hHeld.2.2
              clear hHeld
              go_wp2_with fail
              go_roundw
              case rel =>
                refine ⟨j + 1, _, by omega, by go_num, bk1_put hbk5, ?_, ?_⟩
                · rw [HN.out]; exact hown5.setCell _ _ (fun k hk => by have h1 := hown5.lt k hk; simp only [ne_eq]; omega)
                · have hG : Below (wo.heap.size + 1) ((wo.alloc (.cells #[.slice S[k].A S[k].l.length S[k].c] 52)).alloc (.cells #[.slice none 0 0] 52)) (wr.alloc (.cells #[.int .i64 S[k].l[j].x, .int .i64 S[k].l[j].y, .int .i64 S[k].l[j].t] 72)) := hB.alloc (by omega) _
                  rw [E3.out] at hG
                  exact hG.trans hS
              case measure => (simp [intOf]; try omega)

        · have ej : j = S[k].l.length := by omega
          have HO2 : Hid (Own ptC 72 3 wr ((wo.heap.size + 1) + 1) u (S[k].l.map (mvP dx dy))) := by
            have h1 := HO.out
            rw [ej, doneP_all] at h1
            exact h1
          obtain ⟨A2, c2, hu, hA2, hc2, _⟩ := HO2.out.rd
          rw [List.length_map] at hu
          subst hu
          subst ej
          clear HO
          have hB0 : Below wo.heap.size wo wr := (by go_grown : Below wo.heap.size wo ((wo.alloc (.cells #[.slice S[k].A S[k].l.length S[k].c] 52)).alloc (.cells #[.slice none 0 0] 52))).trans (hB.mono (by omega))
          have hbk3 : Bk wr (w.heap.size + 1 + 1) 29 #[v] := hbk.next hB0
          obtain ⟨eo3, fo3⟩ := bk1 hbk3
          have hgl3 := hbk3.lt
          have HIN := Lib.hid (hin.out.next hB0)
          have HV : Hid (∀ k, v.ownBlock = some k → (w.heap.size + 1 + 1) + 1 ≤ k ∧ k < wo.heap.size) := fun k hk => ⟨(hin.out.row.lt k hk).1, (hin.out.row.lt k hk).2⟩
          have TL : Hid (T.length = k) := hT
          obtain ⟨t, ht⟩ : ∃ t : St, t = ⟨A2, c2, S[k].l.map (mvP dx dy)⟩ := ⟨_, rfl⟩
          have hne : ¬ (w.heap.size + 1 + 1) = (wo.heap.size + 1) := by omega
          have htv : t.val = .slice A2 S[k].l.length c2 := by rw [ht]; simp [St.val]
          have htl : t.l = S[k].l.map (mvP dx dy) := by rw [ht]
          have HTV := Lib.hid htv
          have HTL := Lib.hid htl
          clear ht htv htl hT
          go_wp2_with ((at_builtin; refine list_push elem_sk (by rfl) (.tmp 35) (.tmp 37) 27 (by rfl) Try.underlying27 ((w.heap.size + 1 + 1) + 1) v T t (by rfl) (HIN.out.row.alloc _) k TL.out wr.heap.size 1 (by rfl) (fun i u hu => ((Bk.new wr #[.slice A2 S[k].l.length c2] 52).cell i).trans (by have h1 := HTV.out; unfold skC at hu; rw [h1] at hu; simpa using hu)) (by unfold maxLen; omega) (by omega) (by simp only [World.size_alloc]; omega) ?_; intro g5 cap5 w5 hown5 hgrow5 hat5 hlt5 hkeep5; have hbk5 : Bk w5 (w.heap.size + 1 + 1) 29 #[v] := (hgrow5.block _ (by simp only [World.size_alloc]; omega) (fun e => by have h2 := HV.out _ e.symm; omega)).trans (hbk3.alloc _); obtain ⟨e5, f5⟩ := bk1 hbk5; have hz5 := hgrow5.size; simp only [World.size_alloc] at hz5; have hgl5 := hbk5.lt))
          go_roundw
          case rel =>
            have hlow : (w.heap.size + 1 + 1) + 1 ≤ (wo.heap.size + 1) + 1 := by omega
            have hink := InkOwn.push HIN.out (t := t) (by rw [HTL.out, HTV.out]; exact (HO2.out.mono hlow)) (fun b hb => by rw [HTV.out] at hb; have h1 := (HO2.out.lt b hb).1; omega) hB0.size ((Below.refl _ _).alloc (Nat.le_refl _) _) hgrow5 hat5 hlt5 hown5
            refine ⟨k + 1, _, T ++ [t], by omega, by go_num, bk1_put hbk5, by simp [Hid, TL.out], mapP_next _ ka hpt.out t HTL.out, ?_, ?_⟩
            · have hsz : (w5.setCell ⟨(w.heap.size + 1 + 1), 0, none⟩ (.slice (some ⟨g5, 0, none⟩) (k + 1) cap5)).heap.size = w5.heap.size := by simp [World.setCell]
              rw [hsz]
              exact hink.keep fun j hj _ _ => Below.heap_setCell _ _ _ _ (by simp only [ne_eq]; omega)
            · have hG := hW.trans (hB0.mono (show (w.heap.size + 1 + 1) ≤ wo.heap.size by omega))
              have hG2 := (hG.alloc (show (w.heap.size + 1 + 1) ≤ wr.heap.size by omega) (.cells #[.slice A2 S[k].l.length c2] 52)).grown hgrow5 (by simp only [World.size_alloc]; omega) (fun b hb => by have h2 := HV.out b hb; omega)
              exact hG2.setCell (Nat.le_refl _) _
          case measure => (simp [intOf]; try omega)
    · obtain rfl : k = n := by omega
      have HIN := Lib.hid hin.out
      have HRE := Lib.hid (mapP_all (mvP dx dy) LA.out hpt.out)
      obtain ⟨A2, c2, hv, _, _, _⟩ := hin.out.row.rd
      rw [hT.out] at hv
      subst hv
      have hr0 : Bk wo (w.heap.size + 1) 29 #[.slice none 0 0] := ((Bk.new1 w _ _ _).alloc _).below hW (by omega)
      obtain ⟨er, fr⟩ := bk1 hr0
      have hgr := hr0.lt
      clear hin
      go_wp2_with fail
      refine bodyPost_ret (by simp [results, Try.results61, go_sem, *]; try rfl) rfl ?_
      refine ⟨A2, c2, T, rfl, HRE.out, ?_, by go_grown⟩
      have hsz : (wo.setCell ⟨w.heap.size + 1, 0, none⟩ (.slice A2 k c2)).heap.size = wo.heap.size := by simp [World.setCell]
      rw [hsz]
      exact (HIN.out.keep fun j hj _ _ => Below.heap_setCell _ _ _ _ (by simp only [ne_eq]; omega)).low (by omega)
end Go.Proofs.Ytnmmnikoogjhoaa
