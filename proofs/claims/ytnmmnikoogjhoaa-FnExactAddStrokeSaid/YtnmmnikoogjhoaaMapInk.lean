/-
  Inks mapped point by point: the program's mapInk with its closures.
-/
import Derived.Test.YtnmmnikoogjhoaaInkArg
import Derived.Test.YtnmmnikoogjhoaaS2
namespace Go.Proofs.Ytnmmnikoogjhoaa
set_option linter.unusedSimpArgs false
set_option linter.unusedVariables false
set_option maxRecDepth 20000
open Go.RowKit
open Go.ChangeShapes Go.WideShapes Go.Deep Go.Joins

/-- the first j points, changed -/
def doneP (F : Pt → Pt) (l : List Pt) (j : Nat) : List Pt := (l.take j).map F
theorem doneP_len (F : Pt → Pt) {l : List Pt} {j : Nat} (h : j ≤ l.length) : (doneP F l j).length = j := by simp [doneP, h]
theorem doneP_next (F : Pt → Pt) {l : List Pt} {j : Nat} (h : j < l.length) {q : Pt} (hq : F l[j] = q) : doneP F l (j + 1) = doneP F l j ++ [q] := by
  unfold doneP
  rw [List.take_succ_eq_append_getElem h, List.map_append, ← hq]
  rfl
theorem doneP_all (F : Pt → Pt) (l : List Pt) : doneP F l l.length = l.map F := by unfold doneP; rw [List.take_length]
def mapP (F : Pt → Pt) (P : List (List Pt)) : List (List Pt) := P.map (List.map F)
theorem mapP_len (F : Pt → Pt) (P : List (List Pt)) : (mapP F P).length = P.length := by simp [mapP]
theorem mapP_next (F : Pt → Pt) {S T : List St} {k : Nat} (h : k < S.length) (hT : ptsOf T = (mapP F (ptsOf S)).take k) (t : St) (ht : t.l = S[k].l.map F) : ptsOf (T ++ [t]) = (mapP F (ptsOf S)).take (k + 1) := by
  rw [List.take_succ_eq_append_getElem (by rw [mapP_len, ptsOf_len]; exact h), ← hT]
  simp [ptsOf, mapP, ht]
theorem mapP_all (F : Pt → Pt) {S T : List St} {k : Nat} (h : S.length = k) (hT : ptsOf T = (mapP F (ptsOf S)).take k) : ptsOf T = mapP F (ptsOf S) := by
  rw [hT, List.take_of_length_le (by rw [mapP_len, ptsOf_len]; omega)]
def idP (p : Pt) : Pt := p
theorem mapP_id (P : List (List Pt)) : mapP idP P = P := by
  have e : List.map idP = (id : List Pt → List Pt) := by funext l; simp [show idP = id from rfl]
  unfold mapP
  rw [e]; simp
def mvP (dx dy : Int) (p : Pt) : Pt := ⟨p.x + dx, p.y + dy, p.t⟩

/-- a stroke's row pushed behind the rows so far -/
theorem InkOwn.push {wi W4 w5 : World} {lo hi g n cap : Nat} {v : Value} {T : List St} {t : St} (h : InkOwn wi lo hi v T) (ht : Own ptC 72 3 wi lo t.val t.l) (htb : ∀ k, t.val.ownBlock = some k → hi ≤ k) (hhi : hi ≤ wi.heap.size)
    (h4 : Below wi.heap.size wi W4) (hgrow : W4.grownBy w5 v.ownBlock) (hat : v.ownBlock = some g ∨ g = W4.heap.size) (hlt : g < w5.heap.size) (hown : Own skC 52 1 w5 lo (.slice (some ⟨g, 0, none⟩) n cap) (T ++ [t])) :
    InkOwn w5 lo w5.heap.size (.slice (some ⟨g, 0, none⟩) n cap) (T ++ [t]) := by
  have hsz := h4.size
  have hsz5 := hgrow.size
  have hgo : ∀ k, (Value.slice (some ⟨g, 0, none⟩) n cap).ownBlock = some k → k = g := fun k hk => by simpa [Value.ownBlock, eq_comm] using hk
  have hin : Inner w5 lo hi T := ⟨fun s hs => (h.inner.own s hs).of_block fun k hk => by
      have h1 := (h.inner.own s hs).lt k hk
      rw [hgrow.block k (by omega) (fun e => h.apt s hs k hk e.symm), h4.block k h1.2], h.inner.top, h.inner.apt⟩
  have htn : ∀ k, t.val.ownBlock = some k → v.ownBlock ≠ some k := fun k hk e => by
    have h1 := h.top k e
    have h2 := htb k hk
    omega
  have ht5 : Own ptC 72 3 w5 lo t.val t.l := ht.of_block fun k hk => by
    have h1 := ht.lt k hk
    rw [hgrow.block k (by omega) (fun e => htn k hk e.symm), h4.block k h1.2]
  have hpush : Inner w5 lo w5.heap.size (T ++ [t]) := Inner.push hin ht5 htb (fun k hk => (ht5.lt k hk).2) (by omega)
  refine ⟨hown, fun k hk => by rw [hgo k hk]; exact hlt, hpush, fun s hs k hk e => ?_⟩
  have hkg := hgo k e
  subst hkg
  rw [List.mem_append, List.mem_singleton] at hs
  rcases hs with hs | rfl
  · rcases hat with h1 | h1
    · exact h.apt s hs _ hk h1
    · have h2 := ((h.inner.own s hs).lt _ hk).2
      omega
  · rcases hat with h1 | h1
    · exact htn _ hk h1
    · have h2 := (ht.lt _ hk).2
      omega

theorem copyPt_any {p q : Pt} (hq : Hid (idP p = q)) (w : World) :
    Calls Try.prog 86 #[.agg #[.int .i64 p.x, .int .i64 p.y, .int .i64 p.t]] w fun e w' => e = .returned (.agg #[.int .i64 q.x, .int .i64 q.y, .int .i64 q.t]) ∧ Below w.heap.size w w' := by
  have e : p = q := hq.out
  subst e
  clear hq
  go_enter Try.func86, Try.ntmps86
  go_wp2_with fail
  refine bodyPost_ret (by simp [results, Try.results86, go_sem, *]; try rfl) rfl ?_
  exact ⟨rfl, by go_grown⟩

set_option maxHeartbeats 16000000 in
theorem mapC_any (A : Option Addr) (n c : Nat) (S : List St)  (w : World) (h : InkRd w A n S) (hs : ∀ s ∈ S, s.l.length ≤ 1048576) (hn : n ≤ 1048576) :
    Calls Try.prog 61 #[.agg #[.slice A n c], .func (.func 86) #[] #[]] w fun e w' => ∃ A2 c2 T, e = .returned (.agg #[.slice A2 n c2]) ∧ ptsOf T = mapP idP (ptsOf S) ∧ InkOwn w' w.heap.size w'.heap.size (.slice A2 n c2) T ∧ Below w.heap.size w w' := by
  have HA := Lib.hid h
  have LA := Lib.hid h.len
  clear h
  go_enter Try.func61, Try.ntmps61
  go_wp2_with fail
  go_loopw [14] (fun i wo => ∃ (k : Nat) (v : Value) (T : List St), k ≤ n ∧ i = .int .i64 (k : Int) ∧ Bk wo (w.heap.size + 1 + 1) 29 #[v] ∧ Hid (T.length = k) ∧ Hid (ptsOf T = (mapP idP (ptsOf S)).take k) ∧ Hid (InkOwn wo ((w.heap.size + 1 + 1) + 1) wo.heap.size v T) ∧ Below (w.heap.size + 1 + 1) (((w.alloc (.cells #[.slice A n c] 29)).alloc (.cells #[.slice none 0 0] 29)).alloc (.cells #[.slice none 0 0] 29)) wo) (fun i _ => n - (intOf i).toNat)
  case atStart => exact ⟨0, .slice none 0 0, [], Nat.zero_le _, rfl, Bk.new2 w _ _ _ _, rfl, rfl, InkOwn.nil _ _ _, Below.refl _ _⟩
  case round =>
    obtain ⟨wo, rfl⟩ : ∃ wo, wo = wr := ⟨wr, rfl⟩
    obtain ⟨k, v, T, hk, rfl, hbk, hT, hpt, hin, hW⟩ := hrel
    have hWs := hW.size
    simp only [World.size_alloc] at hWs
    have hW0 : Below w.heap.size w wo := (by go_grown : Below w.heap.size w (((w.alloc (.cells #[.slice A n c] 29)).alloc (.cells #[.slice none 0 0] 29)).alloc (.cells #[.slice none 0 0] 29))).trans (hW.mono (by omega))
    obtain ⟨eo, fo⟩ := bk1 hbk
    have hgl := hbk.lt
    by_cases hlt : k < n
    · have ka : k < S.length := by have := LA.out; omega
      obtain ⟨b1, o1, rfl, l1, c1, p1⟩ := (HA.out.below hW0).at ka
      have hsl := hs _ (List.getElem_mem ka)
      have P1 := Lib.hid ((p1.alloc (.cells #[.slice S[k].A S[k].l.length S[k].c] 52)).alloc (.cells #[.slice none 0 0] 52))
      have hI0 := Bk.new1 wo (.cells #[.slice S[k].A S[k].l.length S[k].c] 52) #[.slice none 0 0] 52
      have HI0 := Lib.hid hI0
      clear p1 hI0
      go_wp2_with fail
      go_loopw [21] (fun i wr => ∃ (j : Nat) (u : Value), j ≤ S[k].l.length ∧ i = .int .i64 (j : Int) ∧ Bk wr (wo.heap.size + 1) 52 #[u] ∧ Own ptC 72 3 wr ((wo.heap.size + 1) + 1) u (doneP idP S[k].l j) ∧ Below (wo.heap.size + 1) ((wo.alloc (.cells #[.slice S[k].A S[k].l.length S[k].c] 52)).alloc (.cells #[.slice none 0 0] 52)) wr) (fun i _ => S[k].l.length - (intOf i).toNat)
      case atStart => exact ⟨0, .slice none 0 0, Nat.zero_le _, rfl, HI0.out, Own.nil _ _ _ _ _, Below.refl _ _⟩
      case round =>
        obtain ⟨j, u, hj, rfl, hbk2, hown, hB⟩ := hrel
        have hgl2 := hbk2.lt
        have hBs := hB.size
        simp only [World.size_alloc] at hBs
        have HO := Lib.hid hown
        have HI : Hid (∀ k, u.ownBlock = some k → (wo.heap.size + 1) + 1 ≤ k ∧ k < wr.heap.size) := hown.lt
        obtain ⟨e0, f0⟩ := bk1 hbk2
        clear hown
        by_cases hjlt : j < S[k].l.length
        · have hB0 : Below wo.heap.size wo wr := (by go_grown : Below wo.heap.size wo ((wo.alloc (.cells #[.slice S[k].A S[k].l.length S[k].c] 52)).alloc (.cells #[.slice none 0 0] 52))).trans (hB.mono (by omega))
          have HP : Hid (Rd wr S[k].A S[k].l.length 3 (rowOf ptC S[k].l)) := ((HA.out.pts _ (List.getElem_mem ka)).below hW0).below hB0
          obtain ⟨b3, o3, e3, l3, a1, a2, a3⟩ := HP.out.pt rfl hjlt
          obtain ⟨q, hq0⟩ : ∃ q, idP S[k].l[j] = q := ⟨_, rfl⟩
          have HN : Hid (doneP idP S[k].l (j + 1) = doneP idP S[k].l j ++ [q]) := doneP_next _ hjlt hq0
          have hq := Lib.hid hq0
          have E3 := Lib.hid e3
          clear hq0
          have hj0 : (0 : Int) ≤ (j : Int) := by omega
          have hjn : (j : Int) < (S[k].l.length : Int) := by omega
          have hu1 : ¬ u.ownBlock = some wr.heap.size := fun e => by have h2 := HI.out _ e; omega
          have hb3 : ¬ wr.heap.size = (wo.heap.size + 1) := by omega
          rw [e3]
          clear e3
          go_wp2_with fail
          refine wp_region_held_drew (S := (fun w' => (∀ kb ko, kb < (wr.alloc (.cells #[.int .i64 S[k].l[j].x, .int .i64 S[k].l[j].y, .int .i64 S[k].l[j].t] 72)).heap.size → ¬ u.ownBlock = some kb → ¬ kb = (wo.heap.size + 1) → w'.cell? ⟨kb, ko, none⟩ = (wr.alloc (.cells #[.int .i64 S[k].l[j].x, .int .i64 S[k].l[j].y, .int .i64 S[k].l[j].t] 72)).cell? ⟨kb, ko, none⟩) ∧ (wr.alloc (.cells #[.int .i64 S[k].l[j].x, .int .i64 S[k].l[j].y, .int .i64 S[k].l[j].t] 72)).heap.size ≤ w'.heap.size ∧ Below (wo.heap.size + 1) (wr.alloc (.cells #[.int .i64 S[k].l[j].x, .int .i64 S[k].l[j].y, .int .i64 S[k].l[j].t] 72)) w')) (by kernel_rfl) ?_ (fun hHeld => ?_)
          · (try dsimp only); exact S2.mk ((Below.refl _ _).drew) (by simp only [World.size_alloc]; omega)
          first | (refine take_on (i := 0) (v := ?_) rfl (by kernel_rfl) (by kernel_rfl) (by kernel_rfl) (fun _ _ _ h => h) rfl ?_ (by assumption) ?_; rotate_left; · (intro w' hSw; (try dsimp only at hSw); go_simp; (try with_reducible rfl))) | (refine take_off (i := 0) rfl (by kernel_rfl) (by kernel_rfl) (by kernel_rfl) (fun _ _ _ h => h) rfl (by assumption) ?_)
          (try simp only [Act.put, List.setIfInBounds_toArray, List.set_cons_zero, List.set_cons_succ])
          first | (refine take_on (i := 2) (v := ?_) rfl (by kernel_rfl) (by kernel_rfl) (by kernel_rfl) (fun _ _ _ h => h) rfl ?_ (by assumption) ?_; rotate_left; · (intro w' hSw; (try dsimp only at hSw); go_simp; (try with_reducible rfl))) | (refine take_off (i := 2) rfl (by kernel_rfl) (by kernel_rfl) (by kernel_rfl) (fun _ _ _ h => h) rfl (by assumption) ?_)
          (try simp only [Act.put, List.setIfInBounds_toArray, List.set_cons_zero, List.set_cons_succ])
          first | (refine take_on (i := 3) (v := ?_) rfl (by kernel_rfl) (by kernel_rfl) (by kernel_rfl) (fun _ _ _ h => h) rfl ?_ (by assumption) ?_; rotate_left; · (intro w' hSw; (try dsimp only at hSw); go_simp; (try with_reducible rfl))) | (refine take_off (i := 3) rfl (by kernel_rfl) (by kernel_rfl) (by kernel_rfl) (fun _ _ _ h => h) rfl (by assumption) ?_)
          (try simp only [Act.put, List.setIfInBounds_toArray, List.set_cons_zero, List.set_cons_succ])
          refine wpAnyH_ready (rs := [1, 4]) (by kernel_rfl) (by simp) ?_
          refine AllReadyH.cons rfl (fun K hK => ?_) (AllReadyH.cons rfl (fun K hK => ?_) (AllReadyH.nil))
          · rw [if_pos (by rfl)]
            go_simp
            refine hK.out _ _ ?_ (fun hHeld2 => ?_)
            · (try dsimp only); exact hHeld
            clear hK K hHeld; have hHeld := hHeld2; clear hHeld2; (try simp only [Act.put, List.setIfInBounds_toArray, List.set_cons_zero, List.set_cons_succ])
            refine wpAnyH_ready (rs := [4]) (by kernel_rfl) (by simp) ?_
            refine AllReadyH.cons rfl (fun K hK => ?_) AllReadyH.nil
            rw [if_pos (by rfl)]
            go_simp
            go_at_call 86
            (with_reducible refine (copyPt_any hq _).mono ?_)
            rintro e w4 ⟨rfl, hb4⟩
            have hB4 : Below (wr.alloc (.cells #[.int .i64 S[k].l[j].x, .int .i64 S[k].l[j].y, .int .i64 S[k].l[j].t] 72)).heap.size (wr.alloc (.cells #[.int .i64 S[k].l[j].x, .int .i64 S[k].l[j].y, .int .i64 S[k].l[j].t] 72)) w4 := Below.next (by go_grown) hb4
            have hz4 := hB4.size
            have hz4' := hz4
            simp only [World.size_alloc] at hz4'
            have HO4 : Hid (Own ptC 72 3 w4 ((wo.heap.size + 1) + 1) u (doneP idP S[k].l j)) := ((HO.out.alloc (.cells #[.int .i64 S[k].l[j].x, .int .i64 S[k].l[j].y, .int .i64 S[k].l[j].t] 72)).next hB4)
            have hbk4 : Bk w4 (wo.heap.size + 1) 52 #[u] := (hbk2.alloc (.cells #[.int .i64 S[k].l[j].x, .int .i64 S[k].l[j].y, .int .i64 S[k].l[j].t] 72)).next hB4
            obtain ⟨e4, f4⟩ := bk1 hbk4
            have hgl4 := hbk4.lt
            refine hK.out _ _ ?_ (fun hHeld2 => ?_)
            · (try dsimp only); exact S2.mk hB4 (by simp only [World.size_alloc]; omega)
            clear hK K hHeld; have hHeld := hHeld2; clear hHeld2; (try simp only [Act.put, List.setIfInBounds_toArray, List.set_cons_zero, List.set_cons_succ])
            refine wpAnyH_ready (rs := [5]) (by kernel_rfl) (by simp) ?_
            refine AllReadyH.cons rfl (fun K hK => ?_) AllReadyH.nil
            rw [if_pos (by rfl)]
            go_simp
            refine hK.out _ _ ?_ (fun hHeld2 => ?_)
            · (try dsimp only); exact S2.mk (hB4.alloc hz4 _) (by simp only [World.size_alloc]; omega)
            clear hK K hHeld; have hHeld := hHeld2; clear hHeld2; (try simp only [Act.put, List.setIfInBounds_toArray, List.set_cons_zero, List.set_cons_succ])
            refine wpAnyH_ready (rs := [6]) (by kernel_rfl) (by simp) ?_
            refine AllReadyH.cons rfl (fun K hK => ?_) AllReadyH.nil
            refine step_push elem_pt (by rfl) (.tmp 26) (.tmp 30) 50 (by rfl) Try.underlying50 ((wo.heap.size + 1) + 1) u (doneP idP S[k].l j) q (by rfl) (HO4.out.alloc _) j (doneP_len _ (Nat.le_of_lt hjlt)) w4.heap.size 1 (by rfl) (fun i u hu => ((Bk.new w4 #[.int .i64 q.x, .int .i64 q.y, .int .i64 q.t] 72).cell i).trans (by simpa [ptC] using hu)) (by unfold maxLen; omega) (by omega) (by simp only [World.size_alloc]; omega) ?_
            intro g5 cap5 w5 hown5 hgrow5 hat5 hlt5 hkeep5
            have hbk5 : Bk w5 (wo.heap.size + 1) 52 #[u] := (hgrow5.block _ (by simp only [World.size_alloc]; omega) (fun e => by have h2 := HI.out _ e.symm; omega)).trans (hbk4.alloc _)
            obtain ⟨e5, f5⟩ := bk1 hbk5
            have hz5 := hgrow5.size
            simp only [World.size_alloc] at hz5
            have hgl5 := hbk5.lt
            refine hK.out _ _ ?_ (fun hHeld2 => ?_)
            · (try dsimp only); exact S2.push hHeld hgrow5 (fun k hk => by have h2 := HI.out k hk; omega) (by simp only [World.size_alloc]; omega)
            clear hK K hHeld; have hHeld := hHeld2; clear hHeld2; (try simp only [Act.put, List.setIfInBounds_toArray, List.set_cons_zero, List.set_cons_succ])
            first | (refine take_on (i := 7) (v := ?_) rfl (by kernel_rfl) (by kernel_rfl) (by kernel_rfl) (fun _ _ _ h => h) rfl ?_ (by assumption) ?_; rotate_left; · (intro w' hSw; (try dsimp only at hSw); go_simp; (try with_reducible rfl))) | (refine take_off (i := 7) rfl (by kernel_rfl) (by kernel_rfl) (by kernel_rfl) (fun _ _ _ h => h) rfl (by assumption) ?_)
            (try simp only [Act.put, List.setIfInBounds_toArray, List.set_cons_zero, List.set_cons_succ])
            refine wpAnyH_ready (rs := [8]) (by kernel_rfl) (by simp) ?_
            refine AllReadyH.cons rfl (fun K hK => ?_) AllReadyH.nil
            rw [if_pos (by rfl)]
            go_simp
            refine hK.out _ _ ?_ (fun hHeld2 => ?_)
            · (try dsimp only); exact S2.store hHeld _
            clear hK K hHeld; have hHeld := hHeld2; clear hHeld2; (try simp only [Act.put, List.setIfInBounds_toArray, List.set_cons_zero, List.set_cons_succ])
            refine wpAnyH_done (by kernel_rfl) ?_ _
            have hS := hHeld.2.2
            clear hHeld
            go_wp2_with fail
            go_roundw
            case rel =>
              refine ⟨j + 1, _, by omega, by go_num, bk1_put hbk5, ?_, ?_⟩
              · rw [HN.out]; exact hown5.setCell _ _ (fun k hk => by have h1 := hown5.lt k hk; simp only [ne_eq]; omega)
              · have hG : Below (wo.heap.size + 1) ((wo.alloc (.cells #[.slice S[k].A S[k].l.length S[k].c] 52)).alloc (.cells #[.slice none 0 0] 52)) (wr.alloc (.cells #[.int .i64 S[k].l[j].x, .int .i64 S[k].l[j].y, .int .i64 S[k].l[j].t] 72)) := hB.alloc (by omega) _
                rw [E3.out] at hG
                exact hG.trans hS
            case measure => (simp [intOf]; try omega)
          · rw [if_pos (by rfl)]
            go_simp
            go_at_call 86
            (with_reducible refine (copyPt_any hq _).mono ?_)
            rintro e w4 ⟨rfl, hb4⟩
            have hB4 : Below (wr.alloc (.cells #[.int .i64 S[k].l[j].x, .int .i64 S[k].l[j].y, .int .i64 S[k].l[j].t] 72)).heap.size (wr.alloc (.cells #[.int .i64 S[k].l[j].x, .int .i64 S[k].l[j].y, .int .i64 S[k].l[j].t] 72)) w4 := Below.next (by go_grown) hb4
            have hz4 := hB4.size
            have hz4' := hz4
            simp only [World.size_alloc] at hz4'
            have HO4 : Hid (Own ptC 72 3 w4 ((wo.heap.size + 1) + 1) u (doneP idP S[k].l j)) := ((HO.out.alloc (.cells #[.int .i64 S[k].l[j].x, .int .i64 S[k].l[j].y, .int .i64 S[k].l[j].t] 72)).next hB4)
            have hbk4 : Bk w4 (wo.heap.size + 1) 52 #[u] := (hbk2.alloc (.cells #[.int .i64 S[k].l[j].x, .int .i64 S[k].l[j].y, .int .i64 S[k].l[j].t] 72)).next hB4
            obtain ⟨e4, f4⟩ := bk1 hbk4
            have hgl4 := hbk4.lt
            refine hK.out _ _ ?_ (fun hHeld2 => ?_)
            · (try dsimp only); exact S2.mk hB4 (by simp only [World.size_alloc]; omega)
            clear hK K hHeld; have hHeld := hHeld2; clear hHeld2; (try simp only [Act.put, List.setIfInBounds_toArray, List.set_cons_zero, List.set_cons_succ])
            refine wpAnyH_ready (rs := [1, 5]) (by kernel_rfl) (by simp) ?_
            refine AllReadyH.cons rfl (fun K hK => ?_) (AllReadyH.cons rfl (fun K hK => ?_) (AllReadyH.nil))
            · rw [if_pos (by rfl)]
              go_simp
              refine hK.out _ _ ?_ (fun hHeld2 => ?_)
              · (try dsimp only); exact hHeld
              clear hK K hHeld; have hHeld := hHeld2; clear hHeld2; (try simp only [Act.put, List.setIfInBounds_toArray, List.set_cons_zero, List.set_cons_succ])
              refine wpAnyH_ready (rs := [5]) (by kernel_rfl) (by simp) ?_
              refine AllReadyH.cons rfl (fun K hK => ?_) AllReadyH.nil
              rw [if_pos (by rfl)]
              go_simp
              refine hK.out _ _ ?_ (fun hHeld2 => ?_)
              · (try dsimp only); exact S2.mk (hB4.alloc hz4 _) (by simp only [World.size_alloc]; omega)
              clear hK K hHeld; have hHeld := hHeld2; clear hHeld2; (try simp only [Act.put, List.setIfInBounds_toArray, List.set_cons_zero, List.set_cons_succ])
              refine wpAnyH_ready (rs := [6]) (by kernel_rfl) (by simp) ?_
              refine AllReadyH.cons rfl (fun K hK => ?_) AllReadyH.nil
              refine step_push elem_pt (by rfl) (.tmp 26) (.tmp 30) 50 (by rfl) Try.underlying50 ((wo.heap.size + 1) + 1) u (doneP idP S[k].l j) q (by rfl) (HO4.out.alloc _) j (doneP_len _ (Nat.le_of_lt hjlt)) w4.heap.size 1 (by rfl) (fun i u hu => ((Bk.new w4 #[.int .i64 q.x, .int .i64 q.y, .int .i64 q.t] 72).cell i).trans (by simpa [ptC] using hu)) (by unfold maxLen; omega) (by omega) (by simp only [World.size_alloc]; omega) ?_
              intro g5 cap5 w5 hown5 hgrow5 hat5 hlt5 hkeep5
              have hbk5 : Bk w5 (wo.heap.size + 1) 52 #[u] := (hgrow5.block _ (by simp only [World.size_alloc]; omega) (fun e => by have h2 := HI.out _ e.symm; omega)).trans (hbk4.alloc _)
              obtain ⟨e5, f5⟩ := bk1 hbk5
              have hz5 := hgrow5.size
              simp only [World.size_alloc] at hz5
              have hgl5 := hbk5.lt
              refine hK.out _ _ ?_ (fun hHeld2 => ?_)
              · (try dsimp only); exact S2.push hHeld hgrow5 (fun k hk => by have h2 := HI.out k hk; omega) (by simp only [World.size_alloc]; omega)
              clear hK K hHeld; have hHeld := hHeld2; clear hHeld2; (try simp only [Act.put, List.setIfInBounds_toArray, List.set_cons_zero, List.set_cons_succ])
              first | (refine take_on (i := 7) (v := ?_) rfl (by kernel_rfl) (by kernel_rfl) (by kernel_rfl) (fun _ _ _ h => h) rfl ?_ (by assumption) ?_; rotate_left; · (intro w' hSw; (try dsimp only at hSw); go_simp; (try with_reducible rfl))) | (refine take_off (i := 7) rfl (by kernel_rfl) (by kernel_rfl) (by kernel_rfl) (fun _ _ _ h => h) rfl (by assumption) ?_)
              (try simp only [Act.put, List.setIfInBounds_toArray, List.set_cons_zero, List.set_cons_succ])
              refine wpAnyH_ready (rs := [8]) (by kernel_rfl) (by simp) ?_
              refine AllReadyH.cons rfl (fun K hK => ?_) AllReadyH.nil
              rw [if_pos (by rfl)]
              go_simp
              refine hK.out _ _ ?_ (fun hHeld2 => ?_)
              · (try dsimp only); exact S2.store hHeld _
              clear hK K hHeld; have hHeld := hHeld2; clear hHeld2; (try simp only [Act.put, List.setIfInBounds_toArray, List.set_cons_zero, List.set_cons_succ])
              refine wpAnyH_done (by kernel_rfl) ?_ _
              have hS := hHeld.2.2
              clear hHeld
              go_wp2_with fail
              go_roundw
              case rel =>
                refine ⟨j + 1, _, by omega, by go_num, bk1_put hbk5, ?_, ?_⟩
                · rw [HN.out]; exact hown5.setCell _ _ (fun k hk => by have h1 := hown5.lt k hk; simp only [ne_eq]; omega)
                · have hG : Below (wo.heap.size + 1) ((wo.alloc (.cells #[.slice S[k].A S[k].l.length S[k].c] 52)).alloc (.cells #[.slice none 0 0] 52)) (wr.alloc (.cells #[.int .i64 S[k].l[j].x, .int .i64 S[k].l[j].y, .int .i64 S[k].l[j].t] 72)) := hB.alloc (by omega) _
                  rw [E3.out] at hG
                  exact hG.trans hS
              case measure => (simp [intOf]; try omega)
            · rw [if_pos (by rfl)]
              go_simp
              refine hK.out _ _ ?_ (fun hHeld2 => ?_)
              · (try dsimp only); exact S2.mk (hB4.alloc hz4 _) (by simp only [World.size_alloc]; omega)
              clear hK K hHeld; have hHeld := hHeld2; clear hHeld2; (try simp only [Act.put, List.setIfInBounds_toArray, List.set_cons_zero, List.set_cons_succ])
              refine wpAnyH_ready (rs := [1]) (by kernel_rfl) (by simp) ?_
              refine AllReadyH.cons rfl (fun K hK => ?_) AllReadyH.nil
              rw [if_pos (by rfl)]
              go_simp
              refine hK.out _ _ ?_ (fun hHeld2 => ?_)
              · (try dsimp only); exact hHeld
              clear hK K hHeld; have hHeld := hHeld2; clear hHeld2; (try simp only [Act.put, List.setIfInBounds_toArray, List.set_cons_zero, List.set_cons_succ])
              refine wpAnyH_ready (rs := [6]) (by kernel_rfl) (by simp) ?_
              refine AllReadyH.cons rfl (fun K hK => ?_) AllReadyH.nil
              refine step_push elem_pt (by rfl) (.tmp 26) (.tmp 30) 50 (by rfl) Try.underlying50 ((wo.heap.size + 1) + 1) u (doneP idP S[k].l j) q (by rfl) (HO4.out.alloc _) j (doneP_len _ (Nat.le_of_lt hjlt)) w4.heap.size 1 (by rfl) (fun i u hu => ((Bk.new w4 #[.int .i64 q.x, .int .i64 q.y, .int .i64 q.t] 72).cell i).trans (by simpa [ptC] using hu)) (by unfold maxLen; omega) (by omega) (by simp only [World.size_alloc]; omega) ?_
              intro g5 cap5 w5 hown5 hgrow5 hat5 hlt5 hkeep5
              have hbk5 : Bk w5 (wo.heap.size + 1) 52 #[u] := (hgrow5.block _ (by simp only [World.size_alloc]; omega) (fun e => by have h2 := HI.out _ e.symm; omega)).trans (hbk4.alloc _)
              obtain ⟨e5, f5⟩ := bk1 hbk5
              have hz5 := hgrow5.size
              simp only [World.size_alloc] at hz5
              have hgl5 := hbk5.lt
              refine hK.out _ _ ?_ (fun hHeld2 => ?_)
              · (try dsimp only); exact S2.push hHeld hgrow5 (fun k hk => by have h2 := HI.out k hk; omega) (by simp only [World.size_alloc]; omega)
              clear hK K hHeld; have hHeld := hHeld2; clear hHeld2; (try simp only [Act.put, List.setIfInBounds_toArray, List.set_cons_zero, List.set_cons_succ])
              first | (refine take_on (i := 7) (v := ?_) rfl (by kernel_rfl) (by kernel_rfl) (by kernel_rfl) (fun _ _ _ h => h) rfl ?_ (by assumption) ?_; rotate_left; · (intro w' hSw; (try dsimp only at hSw); go_simp; (try with_reducible rfl))) | (refine take_off (i := 7) rfl (by kernel_rfl) (by kernel_rfl) (by kernel_rfl) (fun _ _ _ h => h) rfl (by assumption) ?_)
              (try simp only [Act.put, List.setIfInBounds_toArray, List.set_cons_zero, List.set_cons_succ])
              refine wpAnyH_ready (rs := [8]) (by kernel_rfl) (by simp) ?_
              refine AllReadyH.cons rfl (fun K hK => ?_) AllReadyH.nil
              rw [if_pos (by rfl)]
              go_simp
              refine hK.out _ _ ?_ (fun hHeld2 => ?_)
              · (try dsimp only); exact S2.store hHeld _
              clear hK K hHeld; have hHeld := hHeld2; clear hHeld2; (try simp only [Act.put, List.setIfInBounds_toArray, List.set_cons_zero, List.set_cons_succ])
              refine wpAnyH_done (by kernel_rfl) ?_ _
              have hS := hHeld.2.2
              clear hHeld
              go_wp2_with fail
              go_roundw
              case rel =>
                refine ⟨j + 1, _, by omega, by go_num, bk1_put hbk5, ?_, ?_⟩
                · rw [HN.out]; exact hown5.setCell _ _ (fun k hk => by have h1 := hown5.lt k hk; simp only [ne_eq]; omega)
                · have hG : Below (wo.heap.size + 1) ((wo.alloc (.cells #[.slice S[k].A S[k].l.length S[k].c] 52)).alloc (.cells #[.slice none 0 0] 52)) (wr.alloc (.cells #[.int .i64 S[k].l[j].x, .int .i64 S[k].l[j].y, .int .i64 S[k].l[j].t] 72)) := hB.alloc (by omega) _
                  rw [E3.out] at hG
                  exact hG.trans hS
              case measure => (simp [intOf]; try omega)

        · have ej : j = S[k].l.length := by omega
          have HO2 : Hid (Own ptC 72 3 wr ((wo.heap.size + 1) + 1) u (S[k].l.map idP)) := by
            have h1 := HO.out
            rw [ej, doneP_all] at h1
            exact h1
          obtain ⟨A2, c2, hu, hA2, hc2, _⟩ := HO2.out.rd
          rw [List.length_map] at hu
          subst hu
          subst ej
          clear HO
          have hB0 : Below wo.heap.size wo wr := (by go_grown : Below wo.heap.size wo ((wo.alloc (.cells #[.slice S[k].A S[k].l.length S[k].c] 52)).alloc (.cells #[.slice none 0 0] 52))).trans (hB.mono (by omega))
          have hbk3 : Bk wr (w.heap.size + 1 + 1) 29 #[v] := hbk.next hB0
          obtain ⟨eo3, fo3⟩ := bk1 hbk3
          have hgl3 := hbk3.lt
          have HIN := Lib.hid (hin.out.next hB0)
          have HV : Hid (∀ k, v.ownBlock = some k → (w.heap.size + 1 + 1) + 1 ≤ k ∧ k < wo.heap.size) := fun k hk => ⟨(hin.out.row.lt k hk).1, (hin.out.row.lt k hk).2⟩
          have TL : Hid (T.length = k) := hT
          obtain ⟨t, ht⟩ : ∃ t : St, t = ⟨A2, c2, S[k].l.map idP⟩ := ⟨_, rfl⟩
          have hne : ¬ (w.heap.size + 1 + 1) = (wo.heap.size + 1) := by omega
          have htv : t.val = .slice A2 S[k].l.length c2 := by rw [ht]; simp [St.val]
          have htl : t.l = S[k].l.map idP := by rw [ht]
          have HTV := Lib.hid htv
          have HTL := Lib.hid htl
          clear ht htv htl hT
          go_wp2_with ((at_builtin; refine list_push elem_sk (by rfl) (.tmp 35) (.tmp 37) 27 (by rfl) Try.underlying27 ((w.heap.size + 1 + 1) + 1) v T t (by rfl) (HIN.out.row.alloc _) k TL.out wr.heap.size 1 (by rfl) (fun i u hu => ((Bk.new wr #[.slice A2 S[k].l.length c2] 52).cell i).trans (by have h1 := HTV.out; unfold skC at hu; rw [h1] at hu; simpa using hu)) (by unfold maxLen; omega) (by omega) (by simp only [World.size_alloc]; omega) ?_; intro g5 cap5 w5 hown5 hgrow5 hat5 hlt5 hkeep5; have hbk5 : Bk w5 (w.heap.size + 1 + 1) 29 #[v] := (hgrow5.block _ (by simp only [World.size_alloc]; omega) (fun e => by have h2 := HV.out _ e.symm; omega)).trans (hbk3.alloc _); obtain ⟨e5, f5⟩ := bk1 hbk5; have hz5 := hgrow5.size; simp only [World.size_alloc] at hz5; have hgl5 := hbk5.lt))
          go_roundw
          case rel =>
            have hlow : (w.heap.size + 1 + 1) + 1 ≤ (wo.heap.size + 1) + 1 := by omega
            have hink := InkOwn.push HIN.out (t := t) (by rw [HTL.out, HTV.out]; exact (HO2.out.mono hlow)) (fun b hb => by rw [HTV.out] at hb; have h1 := (HO2.out.lt b hb).1; omega) hB0.size ((Below.refl _ _).alloc (Nat.le_refl _) _) hgrow5 hat5 hlt5 hown5
            refine ⟨k + 1, _, T ++ [t], by omega, by go_num, bk1_put hbk5, by simp [Hid, TL.out], mapP_next _ ka hpt.out t HTL.out, ?_, ?_⟩
            · have hsz : (w5.setCell ⟨(w.heap.size + 1 + 1), 0, none⟩ (.slice (some ⟨g5, 0, none⟩) (k + 1) cap5)).heap.size = w5.heap.size := by simp [World.setCell]
              rw [hsz]
              exact hink.keep fun j hj _ _ => Below.heap_setCell _ _ _ _ (by simp only [ne_eq]; omega)
            · have hG := hW.trans (hB0.mono (show (w.heap.size + 1 + 1) ≤ wo.heap.size by omega))
              have hG2 := (hG.alloc (show (w.heap.size + 1 + 1) ≤ wr.heap.size by omega) (.cells #[.slice A2 S[k].l.length c2] 52)).grown hgrow5 (by simp only [World.size_alloc]; omega) (fun b hb => by have h2 := HV.out b hb; omega)
              exact hG2.setCell (Nat.le_refl _) _
          case measure => (simp [intOf]; try omega)
    · obtain rfl : k = n := by omega
      have HIN := Lib.hid hin.out
      have HRE := Lib.hid (mapP_all idP LA.out hpt.out)
      obtain ⟨A2, c2, hv, _, _, _⟩ := hin.out.row.rd
      rw [hT.out] at hv
      subst hv
      have hr0 : Bk wo (w.heap.size + 1) 29 #[.slice none 0 0] := ((Bk.new1 w _ _ _).alloc _).below hW (by omega)
      obtain ⟨er, fr⟩ := bk1 hr0
      have hgr := hr0.lt
      clear hin
      go_wp2_with fail
      refine bodyPost_ret (by simp [results, Try.results61, go_sem, *]; try rfl) rfl ?_
      refine ⟨A2, c2, T, rfl, HRE.out, ?_, by go_grown⟩
      have hsz : (wo.setCell ⟨w.heap.size + 1, 0, none⟩ (.slice A2 k c2)).heap.size = wo.heap.size := by simp [World.setCell]
      rw [hsz]
      exact (HIN.out.keep fun j hj _ _ => Below.heap_setCell _ _ _ _ (by simp only [ne_eq]; omega)).low (by omega)
end Go.Proofs.Ytnmmnikoogjhoaa
