/-
  The reference's copy of a file without notes.
-/
import Derived.Test.YtmdmjnhebbhjbaaCpP
namespace Go.Proofs.Ytmdmjnhebbhjbaa
set_option linter.unusedSimpArgs false
set_option linter.unusedVariables false
set_option maxRecDepth 20000
open Go.RowKit
open Go.ChangeShapes Go.WideShapes Go.Deep Go.Joins

set_option maxHeartbeats 8000000 in
theorem l03Own_z (A1 A2 A3 : Option Addr) (c1 c2 c3 n1 n2 n3 : Nat) (cs : List Ch) (ss : List (Sl (Sl Int))) (ns : List No) (p : FlP) (w : World) (hl1 : cs.length = n1) (hl2 : ss.length = n2) (hl3 : ns.length = n3) (h : FileRd w ⟨⟨A1, c1, cs⟩, ⟨A2, c2, ss⟩, ⟨A3, c3, ns⟩⟩) (hp : filePl ⟨⟨A1, c1, cs⟩, ⟨A2, c2, ss⟩, ⟨A3, c3, ns⟩⟩ = p) (hok : FileOk p) (bX : Nat) (hbx : FBox w bX ⟨⟨A1, c1, cs⟩, ⟨A2, c2, ss⟩, ⟨A3, c3, ns⟩⟩) (h03 : n3 = 0) :
    Calls Try.prog 19 #[.pointer (some ⟨bX, 0, none⟩)] w fun e w' => ∃ f, e = .returned (.agg #[.slice f.ch.A f.ch.l.length f.ch.c, .slice f.st.A f.st.l.length f.st.c, .slice f.no.A f.no.l.length f.no.c]) ∧ filePl f = p ∧ FileMine w' w.heap.size w'.heap.size f ∧ Below w.heap.size w w' := by
  have HPC : Hid (cs = p.ch) := congrArg FlP.ch hp
  have HPS : Hid (ss.map rowsK.pl = p.st) := congrArg FlP.st hp
  have HPN : Hid (ns = p.no) := congrArg FlP.no hp
  have HP := Lib.hid hp
  have HOK := Lib.hid hok
  have RCH : Hid (Rd w A1 n1 4 (rowOf chC cs)) := by rw [← hl1]; exact h.ch.1
  have RST : Hid (Rd w A2 n2 1 (rowOf hdC ss)) := by rw [← hl2]; exact h.st.1
  have RSS : Hid (∀ a ∈ ss, rowsK.rd w a) := h.st.2
  have RNO : Hid (Rd w A3 n3 3 (rowOf noC ns)) := by rw [← hl3]; exact h.no.1
  have h01 : 0 < n1 := by rw [← hl1, show cs = p.ch from HPC.out]; exact hok.c1
  have hb1 : n1 ≤ 6 := by rw [← hl1, show cs = p.ch from HPC.out]; exact hok.c6
  have hb2 : n2 ≤ 16 := by rw [← hl2, ← List.length_map (f := rowsK.pl), show ss.map rowsK.pl = p.st from HPS.out]; exact hok.s16
  have hb3 : n3 ≤ 12 := by rw [← hl3, show ns = p.no from HPN.out]; exact hok.n12
  have N1 := Lib.hid hl1
  have N2 := Lib.hid hl2
  have N3 := Lib.hid hl3
  subst h03
  obtain rfl : ns = [] := List.eq_nil_of_length_eq_zero hl3
  obtain ⟨iN, hiN⟩ : ∃ i, Try.prog.info? 39 = some i := by
    obtain ⟨i, z, hi, _⟩ := elem_no.info
    exact ⟨i, hi⟩
  have hbX := hbx.lt
  have X0 : Hid (w.cell? ⟨bX, 0, none⟩ = some (.slice A1 n1 c1)) := by rw [← hl1]; exact hbx.c0
  have X1 : Hid (w.cell? ⟨bX, 1, none⟩ = some (.slice A2 n2 c2)) := by rw [← hl2]; exact hbx.c1
  have X2 : Hid (w.cell? ⟨bX, 2, none⟩ = some (.slice A3 0 c3)) := by exact hbx.c2
  clear h hp hok hbx
  clear hl1 hl2 hl3
  go_enter Try.func19, Try.ntmps19
  go_upto_region 1 with fail
  obtain ⟨W0, hW0⟩ : ∃ z, z = (w.alloc (.cells #[.slice none 0 0, .slice none 0 0, .slice none 0 0] 35)) := ⟨_, rfl⟩
  rw [← hW0]
  have hBW0 : Below w.heap.size w W0 := by rw [hW0]; exact (Below.refl _ _).alloc (Nat.le_refl _) _
  have hSW0 : W0.heap.size ≤ w.heap.size + 1 := by rw [hW0]; simp
  have hSW1 : w.heap.size + 1 ≤ W0.heap.size := by rw [hW0]; simp
  have KR : Hid (Bk W0 w.heap.size 35 #[.slice none 0 0, .slice none 0 0, .slice none 0 0]) := by rw [hW0]; exact Bk.new w _ _
  have q0 : W0.cell? ⟨bX, 0, none⟩ = some (.slice A1 n1 c1) := (hBW0.cell (p := ⟨bX, 0, none⟩) hbX).trans X0.out
  have q2 : W0.cell? ⟨bX, 2, none⟩ = some (.slice A3 0 c3) := (hBW0.cell (p := ⟨bX, 2, none⟩) hbX).trans X2.out
  have hql : bX < W0.heap.size := by omega
  clear hW0
  go_cut [3] (fun q wx => ∃ (b3 : Nat) (Aa Ab : Option Addr) (ca cb : Nat), q = .pointer (some ⟨b3, 0, none⟩) ∧ Bk wx b3 35 #[.slice Aa n1 ca, .slice none 0 0, .slice Ab 0 cb] ∧ Own chC 74 4 wx W0.heap.size (.slice Aa n1 ca) cs ∧ Own noC 39 3 wx W0.heap.size (.slice Ab 0 cb) [] ∧ (∀ b, (Value.slice Aa n1 ca).ownBlock = some b → (Value.slice Ab 0 cb).ownBlock ≠ some b) ∧ (Value.slice Aa n1 ca).ownBlock ≠ some b3 ∧ (Value.slice Ab 0 cb).ownBlock ≠ some b3 ∧ W0.heap.size ≤ b3 ∧ Below W0.heap.size W0 wx)
  case first =>
    refine wp_region_held_drew (S := (fun w' => (∀ kb ko, kb < W0.heap.size → w'.cell? ⟨kb, ko, none⟩ = W0.cell? ⟨kb, ko, none⟩) ∧ W0.heap.size ≤ w'.heap.size ∧ Below W0.heap.size W0 w')) (by kernel_rfl) ?_ (fun hHeld => ?_)
    · (try dsimp only); exact SB.mk ((Below.refl _ _).drew)
    first | (refine take_on (i := 1) (v := ?_) rfl (by kernel_rfl) (by kernel_rfl) (by kernel_rfl) (fun _ _ _ h => h) rfl ?_ (by assumption) ?_; rotate_left; · (intro w' hSw; (try dsimp only at hSw); go_simp; (try with_reducible rfl))) | (refine take_off (i := 1) rfl (by kernel_rfl) (by kernel_rfl) (by kernel_rfl) (fun _ _ _ h => h) rfl (by assumption) ?_)
    (try simp only [Act.put, List.setIfInBounds_toArray, List.set_cons_zero, List.set_cons_succ])
    first | (refine take_on (i := 2) (v := ?_) rfl (by kernel_rfl) (by kernel_rfl) (by kernel_rfl) (fun _ _ _ h => h) rfl ?_ (by assumption) ?_; rotate_left; · (intro w' hSw; (try dsimp only at hSw); go_simp; (try with_reducible rfl))) | (refine take_off (i := 2) rfl (by kernel_rfl) (by kernel_rfl) (by kernel_rfl) (fun _ _ _ h => h) rfl (by assumption) ?_)
    (try simp only [Act.put, List.setIfInBounds_toArray, List.set_cons_zero, List.set_cons_succ])
    first | (refine take_on (i := 3) (v := ?_) rfl (by kernel_rfl) (by kernel_rfl) (by kernel_rfl) (fun _ _ _ h => h) rfl ?_ (by assumption) ?_; rotate_left; · (intro w' hSw; (try dsimp only at hSw); go_simp; (try with_reducible rfl))) | (refine take_off (i := 3) rfl (by kernel_rfl) (by kernel_rfl) (by kernel_rfl) (fun _ _ _ h => h) rfl (by assumption) ?_)
    (try simp only [Act.put, List.setIfInBounds_toArray, List.set_cons_zero, List.set_cons_succ])
    first | (refine take_on (i := 4) (v := ?_) rfl (by kernel_rfl) (by kernel_rfl) (by kernel_rfl) (fun _ _ _ h => h) rfl ?_ (by assumption) ?_; rotate_left; · (intro w' hSw; (try dsimp only at hSw); go_simp; (try with_reducible rfl))) | (refine take_off (i := 4) rfl (by kernel_rfl) (by kernel_rfl) (by kernel_rfl) (fun _ _ _ h => h) rfl (by assumption) ?_)
    (try simp only [Act.put, List.setIfInBounds_toArray, List.set_cons_zero, List.set_cons_succ])
    first | (refine take_on (i := 7) (v := ?_) rfl (by kernel_rfl) (by kernel_rfl) (by kernel_rfl) (fun _ _ _ h => h) rfl ?_ (by assumption) ?_; rotate_left; · (intro w' hSw; (try dsimp only at hSw); go_simp; (try with_reducible rfl))) | (refine take_off (i := 7) rfl (by kernel_rfl) (by kernel_rfl) (by kernel_rfl) (fun _ _ _ h => h) rfl (by assumption) ?_)
    (try simp only [Act.put, List.setIfInBounds_toArray, List.set_cons_zero, List.set_cons_succ])
    first | (refine take_on (i := 8) (v := ?_) rfl (by kernel_rfl) (by kernel_rfl) (by kernel_rfl) (fun _ _ _ h => h) rfl ?_ (by assumption) ?_; rotate_left; · (intro w' hSw; (try dsimp only at hSw); go_simp; (try with_reducible rfl))) | (refine take_off (i := 8) rfl (by kernel_rfl) (by kernel_rfl) (by kernel_rfl) (fun _ _ _ h => h) rfl (by assumption) ?_)
    (try simp only [Act.put, List.setIfInBounds_toArray, List.set_cons_zero, List.set_cons_succ])
    first | (refine take_on (i := 9) (v := ?_) rfl (by kernel_rfl) (by kernel_rfl) (by kernel_rfl) (fun _ _ _ h => h) rfl ?_ (by assumption) ?_; rotate_left; · (intro w' hSw; (try dsimp only at hSw); go_simp; (try with_reducible rfl))) | (refine take_off (i := 9) rfl (by kernel_rfl) (by kernel_rfl) (by kernel_rfl) (fun _ _ _ h => h) rfl (by assumption) ?_)
    (try simp only [Act.put, List.setIfInBounds_toArray, List.set_cons_zero, List.set_cons_succ])
    first | (refine take_on (i := 10) (v := ?_) rfl (by kernel_rfl) (by kernel_rfl) (by kernel_rfl) (fun _ _ _ h => h) rfl ?_ (by assumption) ?_; rotate_left; · (intro w' hSw; (try dsimp only at hSw); go_simp; (try with_reducible rfl))) | (refine take_off (i := 10) rfl (by kernel_rfl) (by kernel_rfl) (by kernel_rfl) (fun _ _ _ h => h) rfl (by assumption) ?_)
    (try simp only [Act.put, List.setIfInBounds_toArray, List.set_cons_zero, List.set_cons_succ])
    have zx0 : W0.heap.size ≤ W0.drew.heap.size := Nat.le_refl _
    refine wpAnyH_ready (rs := [0, 6, 13]) (by kernel_rfl) (by simp) ?_
    refine AllReadyH.cons rfl (fun K hK => ?_) (AllReadyH.cons rfl (fun K hK => ?_) (AllReadyH.cons rfl (fun K hK => ?_) (AllReadyH.nil)))
    · rw [if_pos (by rfl)]
      go_simp
      have vx1 : W0.heap.size ≤ W0.drew.heap.size := hHeld.2.1
      refine hK.out _ _ ?_ (fun hHeld2 => ?_)
      · (try dsimp only); exact SB.mk (by first | exact hHeld.2.2.alloc hHeld.2.1 _ | go_grown)
      clear hK K hHeld; have hHeld := hHeld2; clear hHeld2; (try simp only [Act.put, List.setIfInBounds_toArray, List.set_cons_zero, List.set_cons_succ])
      obtain ⟨x1, hx1⟩ : ∃ z, z = (W0.alloc (.cells #[] 74)).drew := ⟨_, rfl⟩
      rw [← hx1] at hHeld ⊢
      have bx1 : Below W0.drew.heap.size W0.drew x1 := by rw [hx1]; first | exact (Below.refl _ _).alloc (Nat.le_refl _) _ | go_grown
      have zx1 : x1.heap.size ≤ W0.heap.size + 1 := by rw [hx1]; simp [World.size_drew, World.size_alloc]
      have yx1 : W0.heap.size + 1 ≤ x1.heap.size := by rw [hx1]; simp [World.size_drew, World.size_alloc]
      have ke0 : Bk x1 W0.heap.size 74 #[] := by rw [hx1]; first | exact Bk.new _ _ _ | exact Bk.new W0 _ _
      have wke0 : W0.heap.size ≤ W0.heap.size := vx1
      clear hx1
      refine wpAnyH_ready (rs := [5, 6, 13]) (by kernel_rfl) (by simp) ?_
      refine AllReadyH.cons rfl (fun K hK => ?_) (AllReadyH.cons rfl (fun K hK => ?_) (AllReadyH.cons rfl (fun K hK => ?_) (AllReadyH.nil)))
      · refine step_pushes elem_ch (by rfl) (.tmp 7) (.tmp 11) 31 (by rfl) Try.underlying31 W0.heap.size (.slice (some ⟨W0.heap.size, 0, none⟩) 0 0) [] cs (by rfl) (Own.empty ke0 wke0) 0 n1 rfl N1.out h01 A1 c1 (by rfl) (RCH.out.below (Below.next hBW0 hHeld.2.2)) (by unfold maxLen; omega) (by omega) hHeld.2.1 ?_
        intro goa coa x2 hownx2 hgrx2 hatx2 hltx2
        have zx2 := hgrx2.size
        have hoa : goa = W0.heap.size ∨ goa = x1.heap.size := by
          rcases hatx2 with h | h
          · left; have h9 : W0.heap.size = goa := by simpa [Value.ownBlock] using h
            exact h9.symm
          · exact .inr h
        refine hK.out _ _ ?_ (fun hHeld2 => ?_)
        · (try dsimp only); exact SB.mk (hHeld.2.2.grown hgrx2 hHeld.2.1 (fun b hb => by have h9 : W0.heap.size = b := (by simpa [Value.ownBlock] using hb); omega))
        clear hK K hHeld; have hHeld := hHeld2; clear hHeld2; (try simp only [Act.put, List.setIfInBounds_toArray, List.set_cons_zero, List.set_cons_succ])
        (try simp only [Nat.zero_add])
        have oa : Own chC 74 4 x2 W0.heap.size (.slice (some ⟨goa, 0, none⟩) n1 coa) cs := by
          have h9 := hownx2
          simp only [List.nil_append, Nat.zero_add] at h9
          exact h9
        refine wpAnyH_ready (rs := [6, 13]) (by kernel_rfl) (by simp) ?_
        refine AllReadyH.cons rfl (fun K hK => ?_) (AllReadyH.cons rfl (fun K hK => ?_) (AllReadyH.nil))
        · rw [if_pos (by rfl)]
          go_simp
          have vx3 : W0.heap.size ≤ x2.heap.size := hHeld.2.1
          refine hK.out _ _ ?_ (fun hHeld2 => ?_)
          · (try dsimp only); exact SB.mk (by first | exact hHeld.2.2.alloc hHeld.2.1 _ | go_grown)
          clear hK K hHeld; have hHeld := hHeld2; clear hHeld2; (try simp only [Act.put, List.setIfInBounds_toArray, List.set_cons_zero, List.set_cons_succ])
          obtain ⟨x3, hx3⟩ : ∃ z, z = x2.alloc (.cells #[] 39) := ⟨_, rfl⟩
          rw [← hx3] at hHeld ⊢
          have bx3 : Below x2.heap.size x2 x3 := by rw [hx3]; first | exact (Below.refl _ _).alloc (Nat.le_refl _) _ | go_grown
          have zx3 : x3.heap.size ≤ x2.heap.size + 1 := by rw [hx3]; simp [World.size_drew, World.size_alloc]
          have yx3 : x2.heap.size + 1 ≤ x3.heap.size := by rw [hx3]; simp [World.size_drew, World.size_alloc]
          have ke6 : Bk x3 x2.heap.size 39 #[] := by rw [hx3]; first | exact Bk.new _ _ _ | exact Bk.new W0 _ _
          have wke6 : W0.heap.size ≤ x2.heap.size := vx3
          clear hx3
          have oa := oa.next bx3
          refine wpAnyH_ready (rs := [11, 13]) (by kernel_rfl) (by simp) ?_
          refine AllReadyH.cons rfl (fun K hK => ?_) (AllReadyH.cons rfl (fun K hK => ?_) (AllReadyH.nil))
          · refine step_push0 (by rfl) (.tmp 13) (.tmp 17) 33 39 iN (by rfl) Try.underlying33 hiN (x2.heap.size) A3 c3 (by rfl) (by rfl) ?_
            refine hK.out _ _ ?_ (fun hHeld2 => ?_)
            · (try dsimp only); exact hHeld
            clear hK K hHeld; have hHeld := hHeld2; clear hHeld2; (try simp only [Act.put, List.setIfInBounds_toArray, List.set_cons_zero, List.set_cons_succ])
            have ob : Own noC 39 3 x3 W0.heap.size (.slice (some ⟨x2.heap.size, 0, none⟩) 0 0) [] := Own.empty ke6 wke6
            obtain ⟨gob, hgob⟩ : ∃ g, g = x2.heap.size := ⟨_, rfl⟩
            have cob := 0
            have hob : gob = x2.heap.size ∨ gob = x3.heap.size := .inl hgob
            have oa := oa
            have ke6 := ke6
            first | (refine take_on (i := 12) (v := ?_) rfl (by kernel_rfl) (by kernel_rfl) (by kernel_rfl) (fun _ _ _ h => h) rfl ?_ (by assumption) ?_; rotate_left; · (intro w' hSw; (try dsimp only at hSw); go_simp; (try with_reducible rfl))) | (refine take_off (i := 12) rfl (by kernel_rfl) (by kernel_rfl) (by kernel_rfl) (fun _ _ _ h => h) rfl (by assumption) ?_)
            (try simp only [Act.put, List.setIfInBounds_toArray, List.set_cons_zero, List.set_cons_succ])
            refine wpAnyH_ready (rs := [13]) (by kernel_rfl) (by simp) ?_
            refine AllReadyH.cons rfl (fun K hK => ?_) (AllReadyH.nil)
            · rw [if_pos (by rfl)]
              go_simp
              have vx5 : W0.heap.size ≤ x3.heap.size := hHeld.2.1
              refine hK.out _ _ ?_ (fun hHeld2 => ?_)
              · (try dsimp only); exact SB.mk (by first | exact hHeld.2.2.alloc hHeld.2.1 _ | go_grown)
              clear hK K hHeld; have hHeld := hHeld2; clear hHeld2; (try simp only [Act.put, List.setIfInBounds_toArray, List.set_cons_zero, List.set_cons_succ])
              obtain ⟨x5, hx5⟩ : ∃ z, z = x3.alloc (.cells #[.slice none 0 0, .slice none 0 0, .slice none 0 0] 35) := ⟨_, rfl⟩
              rw [← hx5] at hHeld ⊢
              have bx5 : Below x3.heap.size x3 x5 := by rw [hx5]; first | exact (Below.refl _ _).alloc (Nat.le_refl _) _ | go_grown
              have zx5 : x5.heap.size ≤ x3.heap.size + 1 := by rw [hx5]; simp [World.size_drew, World.size_alloc]
              have yx5 : x3.heap.size + 1 ≤ x5.heap.size := by rw [hx5]; simp [World.size_drew, World.size_alloc]
              have k3 : Bk x5 x3.heap.size 35 #[.slice none 0 0, .slice none 0 0, .slice none 0 0] := by rw [hx5]; first | exact Bk.new _ _ _ | exact Bk.new W0 _ _
              have wk3 : W0.heap.size ≤ x3.heap.size := vx5
              clear hx5
              have oa := oa.next bx5
              have ke6 := ke6.next bx5
              have ob := ob.next bx5
              have e0 := k3.cell 0
              have e1 := k3.cell 1
              have e2 := k3.cell 2
              have f0 := k3.frozen 0
              have f1 := k3.frozen 1
              have f2 := k3.frozen 2
              have lt3 := k3.lt
              refine wpAnyH_ready (rs := [14]) (by kernel_rfl) (by simp) ?_
              refine AllReadyH.cons rfl (fun K hK => ?_) AllReadyH.nil
              rw [if_pos (by rfl)]
              go_simp
              refine hK.out _ _ ?_ (fun hHeld2 => ?_)
              · (try dsimp only); exact SB.mk (((hHeld.2.2.setCell wk3 _).setCell wk3 _).setCell wk3 _)
              clear hK K hHeld; have hHeld := hHeld2; clear hHeld2; (try simp only [Act.put, List.setIfInBounds_toArray, List.set_cons_zero, List.set_cons_succ])
              refine wpAnyH_done (by kernel_rfl) ?_ _
              have hF := hHeld.2.2
              clear hHeld
              go_wp2_with fail
              go_meet
              refine ⟨x3.heap.size, some ⟨goa, 0, none⟩, some ⟨(x2.heap.size), 0, none⟩, coa, 0, rfl, ?_, ?_, ?_, ?_, ?_, ?_, wk3, hF⟩
              · have h1 := ((k3.put 0 (.slice (some ⟨goa, 0, none⟩) n1 coa)).put 1 (.slice none 0 0)).put 2 (.slice (some ⟨(x2.heap.size), 0, none⟩) 0 0)
                simpa using h1
              · exact ((oa.setCell _ _ (fun k hk => by have h9 : goa = k := (by simpa [Value.ownBlock] using hk); simp only [ne_eq]; rcases hoa with h5 | h5 <;> omega)).setCell _ _ (fun k hk => by have h9 : goa = k := (by simpa [Value.ownBlock] using hk); simp only [ne_eq]; rcases hoa with h5 | h5 <;> omega)).setCell _ _ (fun k hk => by have h9 : goa = k := (by simpa [Value.ownBlock] using hk); simp only [ne_eq]; rcases hoa with h5 | h5 <;> omega)
              · exact ((ob.setCell _ _ (fun k hk => by have h9 : (x2.heap.size) = k := (by simpa [Value.ownBlock] using hk); simp only [ne_eq]; omega)).setCell _ _ (fun k hk => by have h9 : (x2.heap.size) = k := (by simpa [Value.ownBlock] using hk); simp only [ne_eq]; omega)).setCell _ _ (fun k hk => by have h9 : (x2.heap.size) = k := (by simpa [Value.ownBlock] using hk); simp only [ne_eq]; omega)
              · intro b h1 h2
                have h3 : goa = b := by simpa [Value.ownBlock] using h1
                have h4 : (x2.heap.size) = b := by simpa [Value.ownBlock] using h2
                rcases hoa with h5 | h5 <;> omega
              · intro e
                have h3 : goa = x3.heap.size := by simpa [Value.ownBlock] using e
                rcases hoa with h5 | h5 <;> omega
              · intro e
                have h3 : (x2.heap.size) = x3.heap.size := by simpa [Value.ownBlock] using e
                omega
          · rw [if_pos (by rfl)]
            go_simp
            have vx6 : W0.heap.size ≤ x3.heap.size := hHeld.2.1
            refine hK.out _ _ ?_ (fun hHeld2 => ?_)
            · (try dsimp only); exact SB.mk (by first | exact hHeld.2.2.alloc hHeld.2.1 _ | go_grown)
            clear hK K hHeld; have hHeld := hHeld2; clear hHeld2; (try simp only [Act.put, List.setIfInBounds_toArray, List.set_cons_zero, List.set_cons_succ])
            obtain ⟨x6, hx6⟩ : ∃ z, z = x3.alloc (.cells #[.slice none 0 0, .slice none 0 0, .slice none 0 0] 35) := ⟨_, rfl⟩
            rw [← hx6] at hHeld ⊢
            have bx6 : Below x3.heap.size x3 x6 := by rw [hx6]; first | exact (Below.refl _ _).alloc (Nat.le_refl _) _ | go_grown
            have zx6 : x6.heap.size ≤ x3.heap.size + 1 := by rw [hx6]; simp [World.size_drew, World.size_alloc]
            have yx6 : x3.heap.size + 1 ≤ x6.heap.size := by rw [hx6]; simp [World.size_drew, World.size_alloc]
            have k3 : Bk x6 x3.heap.size 35 #[.slice none 0 0, .slice none 0 0, .slice none 0 0] := by rw [hx6]; first | exact Bk.new _ _ _ | exact Bk.new W0 _ _
            have wk3 : W0.heap.size ≤ x3.heap.size := vx6
            clear hx6
            have oa := oa.next bx6
            have ke6 := ke6.next bx6
            refine wpAnyH_ready (rs := [11]) (by kernel_rfl) (by simp) ?_
            refine AllReadyH.cons rfl (fun K hK => ?_) (AllReadyH.nil)
            · refine step_push0 (by rfl) (.tmp 13) (.tmp 17) 33 39 iN (by rfl) Try.underlying33 hiN (x2.heap.size) A3 c3 (by rfl) (by rfl) ?_
              refine hK.out _ _ ?_ (fun hHeld2 => ?_)
              · (try dsimp only); exact hHeld
              clear hK K hHeld; have hHeld := hHeld2; clear hHeld2; (try simp only [Act.put, List.setIfInBounds_toArray, List.set_cons_zero, List.set_cons_succ])
              have ob : Own noC 39 3 x6 W0.heap.size (.slice (some ⟨x2.heap.size, 0, none⟩) 0 0) [] := Own.empty ke6 wke6
              obtain ⟨gob, hgob⟩ : ∃ g, g = x2.heap.size := ⟨_, rfl⟩
              have cob := 0
              have hob : gob = x2.heap.size ∨ gob = x6.heap.size := .inl hgob
              have oa := oa
              have ke6 := ke6
              have k3 := k3
              first | (refine take_on (i := 12) (v := ?_) rfl (by kernel_rfl) (by kernel_rfl) (by kernel_rfl) (fun _ _ _ h => h) rfl ?_ (by assumption) ?_; rotate_left; · (intro w' hSw; (try dsimp only at hSw); go_simp; (try with_reducible rfl))) | (refine take_off (i := 12) rfl (by kernel_rfl) (by kernel_rfl) (by kernel_rfl) (fun _ _ _ h => h) rfl (by assumption) ?_)
              (try simp only [Act.put, List.setIfInBounds_toArray, List.set_cons_zero, List.set_cons_succ])
              have e0 := k3.cell 0
              have e1 := k3.cell 1
              have e2 := k3.cell 2
              have f0 := k3.frozen 0
              have f1 := k3.frozen 1
              have f2 := k3.frozen 2
              have lt3 := k3.lt
              refine wpAnyH_ready (rs := [14]) (by kernel_rfl) (by simp) ?_
              refine AllReadyH.cons rfl (fun K hK => ?_) AllReadyH.nil
              rw [if_pos (by rfl)]
              go_simp
              refine hK.out _ _ ?_ (fun hHeld2 => ?_)
              · (try dsimp only); exact SB.mk (((hHeld.2.2.setCell wk3 _).setCell wk3 _).setCell wk3 _)
              clear hK K hHeld; have hHeld := hHeld2; clear hHeld2; (try simp only [Act.put, List.setIfInBounds_toArray, List.set_cons_zero, List.set_cons_succ])
              refine wpAnyH_done (by kernel_rfl) ?_ _
              have hF := hHeld.2.2
              clear hHeld
              go_wp2_with fail
              go_meet
              refine ⟨x3.heap.size, some ⟨goa, 0, none⟩, some ⟨(x2.heap.size), 0, none⟩, coa, 0, rfl, ?_, ?_, ?_, ?_, ?_, ?_, wk3, hF⟩
              · have h1 := ((k3.put 0 (.slice (some ⟨goa, 0, none⟩) n1 coa)).put 1 (.slice none 0 0)).put 2 (.slice (some ⟨(x2.heap.size), 0, none⟩) 0 0)
                simpa using h1
              · exact ((oa.setCell _ _ (fun k hk => by have h9 : goa = k := (by simpa [Value.ownBlock] using hk); simp only [ne_eq]; rcases hoa with h5 | h5 <;> omega)).setCell _ _ (fun k hk => by have h9 : goa = k := (by simpa [Value.ownBlock] using hk); simp only [ne_eq]; rcases hoa with h5 | h5 <;> omega)).setCell _ _ (fun k hk => by have h9 : goa = k := (by simpa [Value.ownBlock] using hk); simp only [ne_eq]; rcases hoa with h5 | h5 <;> omega)
              · exact ((ob.setCell _ _ (fun k hk => by have h9 : (x2.heap.size) = k := (by simpa [Value.ownBlock] using hk); simp only [ne_eq]; omega)).setCell _ _ (fun k hk => by have h9 : (x2.heap.size) = k := (by simpa [Value.ownBlock] using hk); simp only [ne_eq]; omega)).setCell _ _ (fun k hk => by have h9 : (x2.heap.size) = k := (by simpa [Value.ownBlock] using hk); simp only [ne_eq]; omega)
              · intro b h1 h2
                have h3 : goa = b := by simpa [Value.ownBlock] using h1
                have h4 : (x2.heap.size) = b := by simpa [Value.ownBlock] using h2
                rcases hoa with h5 | h5 <;> omega
              · intro e
                have h3 : goa = x3.heap.size := by simpa [Value.ownBlock] using e
                rcases hoa with h5 | h5 <;> omega
              · intro e
                have h3 : (x2.heap.size) = x3.heap.size := by simpa [Value.ownBlock] using e
                omega
        · rw [if_pos (by rfl)]
          go_simp
          have vx8 : W0.heap.size ≤ x2.heap.size := hHeld.2.1
          refine hK.out _ _ ?_ (fun hHeld2 => ?_)
          · (try dsimp only); exact SB.mk (by first | exact hHeld.2.2.alloc hHeld.2.1 _ | go_grown)
          clear hK K hHeld; have hHeld := hHeld2; clear hHeld2; (try simp only [Act.put, List.setIfInBounds_toArray, List.set_cons_zero, List.set_cons_succ])
          obtain ⟨x8, hx8⟩ : ∃ z, z = x2.alloc (.cells #[.slice none 0 0, .slice none 0 0, .slice none 0 0] 35) := ⟨_, rfl⟩
          rw [← hx8] at hHeld ⊢
          have bx8 : Below x2.heap.size x2 x8 := by rw [hx8]; first | exact (Below.refl _ _).alloc (Nat.le_refl _) _ | go_grown
          have zx8 : x8.heap.size ≤ x2.heap.size + 1 := by rw [hx8]; simp [World.size_drew, World.size_alloc]
          have yx8 : x2.heap.size + 1 ≤ x8.heap.size := by rw [hx8]; simp [World.size_drew, World.size_alloc]
          have k3 : Bk x8 x2.heap.size 35 #[.slice none 0 0, .slice none 0 0, .slice none 0 0] := by rw [hx8]; first | exact Bk.new _ _ _ | exact Bk.new W0 _ _
          have wk3 : W0.heap.size ≤ x2.heap.size := vx8
          clear hx8
          have oa := oa.next bx8
          refine wpAnyH_ready (rs := [6]) (by kernel_rfl) (by simp) ?_
          refine AllReadyH.cons rfl (fun K hK => ?_) (AllReadyH.nil)
          · rw [if_pos (by rfl)]
            go_simp
            have vx9 : W0.heap.size ≤ x8.heap.size := hHeld.2.1
            refine hK.out _ _ ?_ (fun hHeld2 => ?_)
            · (try dsimp only); exact SB.mk (by first | exact hHeld.2.2.alloc hHeld.2.1 _ | go_grown)
            clear hK K hHeld; have hHeld := hHeld2; clear hHeld2; (try simp only [Act.put, List.setIfInBounds_toArray, List.set_cons_zero, List.set_cons_succ])
            obtain ⟨x9, hx9⟩ : ∃ z, z = x8.alloc (.cells #[] 39) := ⟨_, rfl⟩
            rw [← hx9] at hHeld ⊢
            have bx9 : Below x8.heap.size x8 x9 := by rw [hx9]; first | exact (Below.refl _ _).alloc (Nat.le_refl _) _ | go_grown
            have zx9 : x9.heap.size ≤ x8.heap.size + 1 := by rw [hx9]; simp [World.size_drew, World.size_alloc]
            have yx9 : x8.heap.size + 1 ≤ x9.heap.size := by rw [hx9]; simp [World.size_drew, World.size_alloc]
            have ke6 : Bk x9 x8.heap.size 39 #[] := by rw [hx9]; first | exact Bk.new _ _ _ | exact Bk.new W0 _ _
            have wke6 : W0.heap.size ≤ x8.heap.size := vx9
            clear hx9
            have oa := oa.next bx9
            have k3 := k3.next bx9
            refine wpAnyH_ready (rs := [11]) (by kernel_rfl) (by simp) ?_
            refine AllReadyH.cons rfl (fun K hK => ?_) (AllReadyH.nil)
            · refine step_push0 (by rfl) (.tmp 13) (.tmp 17) 33 39 iN (by rfl) Try.underlying33 hiN (x8.heap.size) A3 c3 (by rfl) (by rfl) ?_
              refine hK.out _ _ ?_ (fun hHeld2 => ?_)
              · (try dsimp only); exact hHeld
              clear hK K hHeld; have hHeld := hHeld2; clear hHeld2; (try simp only [Act.put, List.setIfInBounds_toArray, List.set_cons_zero, List.set_cons_succ])
              have ob : Own noC 39 3 x9 W0.heap.size (.slice (some ⟨x8.heap.size, 0, none⟩) 0 0) [] := Own.empty ke6 wke6
              obtain ⟨gob, hgob⟩ : ∃ g, g = x8.heap.size := ⟨_, rfl⟩
              have cob := 0
              have hob : gob = x8.heap.size ∨ gob = x9.heap.size := .inl hgob
              have oa := oa
              have k3 := k3
              have ke6 := ke6
              first | (refine take_on (i := 12) (v := ?_) rfl (by kernel_rfl) (by kernel_rfl) (by kernel_rfl) (fun _ _ _ h => h) rfl ?_ (by assumption) ?_; rotate_left; · (intro w' hSw; (try dsimp only at hSw); go_simp; (try with_reducible rfl))) | (refine take_off (i := 12) rfl (by kernel_rfl) (by kernel_rfl) (by kernel_rfl) (fun _ _ _ h => h) rfl (by assumption) ?_)
              (try simp only [Act.put, List.setIfInBounds_toArray, List.set_cons_zero, List.set_cons_succ])
              have e0 := k3.cell 0
              have e1 := k3.cell 1
              have e2 := k3.cell 2
              have f0 := k3.frozen 0
              have f1 := k3.frozen 1
              have f2 := k3.frozen 2
              have lt3 := k3.lt
              refine wpAnyH_ready (rs := [14]) (by kernel_rfl) (by simp) ?_
              refine AllReadyH.cons rfl (fun K hK => ?_) AllReadyH.nil
              rw [if_pos (by rfl)]
              go_simp
              refine hK.out _ _ ?_ (fun hHeld2 => ?_)
              · (try dsimp only); exact SB.mk (((hHeld.2.2.setCell wk3 _).setCell wk3 _).setCell wk3 _)
              clear hK K hHeld; have hHeld := hHeld2; clear hHeld2; (try simp only [Act.put, List.setIfInBounds_toArray, List.set_cons_zero, List.set_cons_succ])
              refine wpAnyH_done (by kernel_rfl) ?_ _
              have hF := hHeld.2.2
              clear hHeld
              go_wp2_with fail
              go_meet
              refine ⟨x2.heap.size, some ⟨goa, 0, none⟩, some ⟨(x8.heap.size), 0, none⟩, coa, 0, rfl, ?_, ?_, ?_, ?_, ?_, ?_, wk3, hF⟩
              · have h1 := ((k3.put 0 (.slice (some ⟨goa, 0, none⟩) n1 coa)).put 1 (.slice none 0 0)).put 2 (.slice (some ⟨(x8.heap.size), 0, none⟩) 0 0)
                simpa using h1
              · exact ((oa.setCell _ _ (fun k hk => by have h9 : goa = k := (by simpa [Value.ownBlock] using hk); simp only [ne_eq]; rcases hoa with h5 | h5 <;> omega)).setCell _ _ (fun k hk => by have h9 : goa = k := (by simpa [Value.ownBlock] using hk); simp only [ne_eq]; rcases hoa with h5 | h5 <;> omega)).setCell _ _ (fun k hk => by have h9 : goa = k := (by simpa [Value.ownBlock] using hk); simp only [ne_eq]; rcases hoa with h5 | h5 <;> omega)
              · exact ((ob.setCell _ _ (fun k hk => by have h9 : (x8.heap.size) = k := (by simpa [Value.ownBlock] using hk); simp only [ne_eq]; omega)).setCell _ _ (fun k hk => by have h9 : (x8.heap.size) = k := (by simpa [Value.ownBlock] using hk); simp only [ne_eq]; omega)).setCell _ _ (fun k hk => by have h9 : (x8.heap.size) = k := (by simpa [Value.ownBlock] using hk); simp only [ne_eq]; omega)
              · intro b h1 h2
                have h3 : goa = b := by simpa [Value.ownBlock] using h1
                have h4 : (x8.heap.size) = b := by simpa [Value.ownBlock] using h2
                rcases hoa with h5 | h5 <;> omega
              · intro e
                have h3 : goa = x2.heap.size := by simpa [Value.ownBlock] using e
                rcases hoa with h5 | h5 <;> omega
              · intro e
                have h3 : (x8.heap.size) = x2.heap.size := by simpa [Value.ownBlock] using e
                omega
      · rw [if_pos (by rfl)]
        go_simp
        have vx11 : W0.heap.size ≤ x1.heap.size := hHeld.2.1
        refine hK.out _ _ ?_ (fun hHeld2 => ?_)
        · (try dsimp only); exact SB.mk (by first | exact hHeld.2.2.alloc hHeld.2.1 _ | go_grown)
        clear hK K hHeld; have hHeld := hHeld2; clear hHeld2; (try simp only [Act.put, List.setIfInBounds_toArray, List.set_cons_zero, List.set_cons_succ])
        obtain ⟨x11, hx11⟩ : ∃ z, z = x1.alloc (.cells #[] 39) := ⟨_, rfl⟩
        rw [← hx11] at hHeld ⊢
        have bx11 : Below x1.heap.size x1 x11 := by rw [hx11]; first | exact (Below.refl _ _).alloc (Nat.le_refl _) _ | go_grown
        have zx11 : x11.heap.size ≤ x1.heap.size + 1 := by rw [hx11]; simp [World.size_drew, World.size_alloc]
        have yx11 : x1.heap.size + 1 ≤ x11.heap.size := by rw [hx11]; simp [World.size_drew, World.size_alloc]
        have ke6 : Bk x11 x1.heap.size 39 #[] := by rw [hx11]; first | exact Bk.new _ _ _ | exact Bk.new W0 _ _
        have wke6 : W0.heap.size ≤ x1.heap.size := vx11
        clear hx11
        have ke0 := ke0.next bx11
        refine wpAnyH_ready (rs := [5, 13]) (by kernel_rfl) (by simp) ?_
        refine AllReadyH.cons rfl (fun K hK => ?_) (AllReadyH.cons rfl (fun K hK => ?_) (AllReadyH.nil))
        · refine step_pushes elem_ch (by rfl) (.tmp 7) (.tmp 11) 31 (by rfl) Try.underlying31 W0.heap.size (.slice (some ⟨W0.heap.size, 0, none⟩) 0 0) [] cs (by rfl) (Own.empty ke0 wke0) 0 n1 rfl N1.out h01 A1 c1 (by rfl) (RCH.out.below (Below.next hBW0 hHeld.2.2)) (by unfold maxLen; omega) (by omega) hHeld.2.1 ?_
          intro goa coa x12 hownx12 hgrx12 hatx12 hltx12
          have zx12 := hgrx12.size
          have hoa : goa = W0.heap.size ∨ goa = x11.heap.size := by
            rcases hatx12 with h | h
            · left; have h9 : W0.heap.size = goa := by simpa [Value.ownBlock] using h
              exact h9.symm
            · exact .inr h
          refine hK.out _ _ ?_ (fun hHeld2 => ?_)
          · (try dsimp only); exact SB.mk (hHeld.2.2.grown hgrx12 hHeld.2.1 (fun b hb => by have h9 : W0.heap.size = b := (by simpa [Value.ownBlock] using hb); omega))
          clear hK K hHeld; have hHeld := hHeld2; clear hHeld2; (try simp only [Act.put, List.setIfInBounds_toArray, List.set_cons_zero, List.set_cons_succ])
          (try simp only [Nat.zero_add])
          have oa : Own chC 74 4 x12 W0.heap.size (.slice (some ⟨goa, 0, none⟩) n1 coa) cs := by
            have h9 := hownx12
            simp only [List.nil_append, Nat.zero_add] at h9
            exact h9
          have ke6 := (show Bk _ _ _ _ from (hgrx12.block _ ke6.lt (fun e => by have h9 := e.symm; simp [Value.ownBlock] at h9; omega)).trans ke6)
          refine wpAnyH_ready (rs := [11, 13]) (by kernel_rfl) (by simp) ?_
          refine AllReadyH.cons rfl (fun K hK => ?_) (AllReadyH.cons rfl (fun K hK => ?_) (AllReadyH.nil))
          · refine step_push0 (by rfl) (.tmp 13) (.tmp 17) 33 39 iN (by rfl) Try.underlying33 hiN (x1.heap.size) A3 c3 (by rfl) (by rfl) ?_
            refine hK.out _ _ ?_ (fun hHeld2 => ?_)
            · (try dsimp only); exact hHeld
            clear hK K hHeld; have hHeld := hHeld2; clear hHeld2; (try simp only [Act.put, List.setIfInBounds_toArray, List.set_cons_zero, List.set_cons_succ])
            have ob : Own noC 39 3 x12 W0.heap.size (.slice (some ⟨x1.heap.size, 0, none⟩) 0 0) [] := Own.empty ke6 wke6
            obtain ⟨gob, hgob⟩ : ∃ g, g = x1.heap.size := ⟨_, rfl⟩
            have cob := 0
            have hob : gob = x1.heap.size ∨ gob = x12.heap.size := .inl hgob
            have ke6 := ke6
            have oa := oa
            first | (refine take_on (i := 12) (v := ?_) rfl (by kernel_rfl) (by kernel_rfl) (by kernel_rfl) (fun _ _ _ h => h) rfl ?_ (by assumption) ?_; rotate_left; · (intro w' hSw; (try dsimp only at hSw); go_simp; (try with_reducible rfl))) | (refine take_off (i := 12) rfl (by kernel_rfl) (by kernel_rfl) (by kernel_rfl) (fun _ _ _ h => h) rfl (by assumption) ?_)
            (try simp only [Act.put, List.setIfInBounds_toArray, List.set_cons_zero, List.set_cons_succ])
            refine wpAnyH_ready (rs := [13]) (by kernel_rfl) (by simp) ?_
            refine AllReadyH.cons rfl (fun K hK => ?_) (AllReadyH.nil)
            · rw [if_pos (by rfl)]
              go_simp
              have vx14 : W0.heap.size ≤ x12.heap.size := hHeld.2.1
              refine hK.out _ _ ?_ (fun hHeld2 => ?_)
              · (try dsimp only); exact SB.mk (by first | exact hHeld.2.2.alloc hHeld.2.1 _ | go_grown)
              clear hK K hHeld; have hHeld := hHeld2; clear hHeld2; (try simp only [Act.put, List.setIfInBounds_toArray, List.set_cons_zero, List.set_cons_succ])
              obtain ⟨x14, hx14⟩ : ∃ z, z = x12.alloc (.cells #[.slice none 0 0, .slice none 0 0, .slice none 0 0] 35) := ⟨_, rfl⟩
              rw [← hx14] at hHeld ⊢
              have bx14 : Below x12.heap.size x12 x14 := by rw [hx14]; first | exact (Below.refl _ _).alloc (Nat.le_refl _) _ | go_grown
              have zx14 : x14.heap.size ≤ x12.heap.size + 1 := by rw [hx14]; simp [World.size_drew, World.size_alloc]
              have yx14 : x12.heap.size + 1 ≤ x14.heap.size := by rw [hx14]; simp [World.size_drew, World.size_alloc]
              have k3 : Bk x14 x12.heap.size 35 #[.slice none 0 0, .slice none 0 0, .slice none 0 0] := by rw [hx14]; first | exact Bk.new _ _ _ | exact Bk.new W0 _ _
              have wk3 : W0.heap.size ≤ x12.heap.size := vx14
              clear hx14
              have ke6 := ke6.next bx14
              have oa := oa.next bx14
              have ob := ob.next bx14
              have e0 := k3.cell 0
              have e1 := k3.cell 1
              have e2 := k3.cell 2
              have f0 := k3.frozen 0
              have f1 := k3.frozen 1
              have f2 := k3.frozen 2
              have lt3 := k3.lt
              refine wpAnyH_ready (rs := [14]) (by kernel_rfl) (by simp) ?_
              refine AllReadyH.cons rfl (fun K hK => ?_) AllReadyH.nil
              rw [if_pos (by rfl)]
              go_simp
              refine hK.out _ _ ?_ (fun hHeld2 => ?_)
              · (try dsimp only); exact SB.mk (((hHeld.2.2.setCell wk3 _).setCell wk3 _).setCell wk3 _)
              clear hK K hHeld; have hHeld := hHeld2; clear hHeld2; (try simp only [Act.put, List.setIfInBounds_toArray, List.set_cons_zero, List.set_cons_succ])
              refine wpAnyH_done (by kernel_rfl) ?_ _
              have hF := hHeld.2.2
              clear hHeld
              go_wp2_with fail
              go_meet
              refine ⟨x12.heap.size, some ⟨goa, 0, none⟩, some ⟨(x1.heap.size), 0, none⟩, coa, 0, rfl, ?_, ?_, ?_, ?_, ?_, ?_, wk3, hF⟩
              · have h1 := ((k3.put 0 (.slice (some ⟨goa, 0, none⟩) n1 coa)).put 1 (.slice none 0 0)).put 2 (.slice (some ⟨(x1.heap.size), 0, none⟩) 0 0)
                simpa using h1
              · exact ((oa.setCell _ _ (fun k hk => by have h9 : goa = k := (by simpa [Value.ownBlock] using hk); simp only [ne_eq]; rcases hoa with h5 | h5 <;> omega)).setCell _ _ (fun k hk => by have h9 : goa = k := (by simpa [Value.ownBlock] using hk); simp only [ne_eq]; rcases hoa with h5 | h5 <;> omega)).setCell _ _ (fun k hk => by have h9 : goa = k := (by simpa [Value.ownBlock] using hk); simp only [ne_eq]; rcases hoa with h5 | h5 <;> omega)
              · exact ((ob.setCell _ _ (fun k hk => by have h9 : (x1.heap.size) = k := (by simpa [Value.ownBlock] using hk); simp only [ne_eq]; omega)).setCell _ _ (fun k hk => by have h9 : (x1.heap.size) = k := (by simpa [Value.ownBlock] using hk); simp only [ne_eq]; omega)).setCell _ _ (fun k hk => by have h9 : (x1.heap.size) = k := (by simpa [Value.ownBlock] using hk); simp only [ne_eq]; omega)
              · intro b h1 h2
                have h3 : goa = b := by simpa [Value.ownBlock] using h1
                have h4 : (x1.heap.size) = b := by simpa [Value.ownBlock] using h2
                rcases hoa with h5 | h5 <;> omega
              · intro e
                have h3 : goa = x12.heap.size := by simpa [Value.ownBlock] using e
                rcases hoa with h5 | h5 <;> omega
              · intro e
                have h3 : (x1.heap.size) = x12.heap.size := by simpa [Value.ownBlock] using e
                omega
          · rw [if_pos (by rfl)]
            go_simp
            have vx15 : W0.heap.size ≤ x12.heap.size := hHeld.2.1
            refine hK.out _ _ ?_ (fun hHeld2 => ?_)
            · (try dsimp only); exact SB.mk (by first | exact hHeld.2.2.alloc hHeld.2.1 _ | go_grown)
            clear hK K hHeld; have hHeld := hHeld2; clear hHeld2; (try simp only [Act.put, List.setIfInBounds_toArray, List.set_cons_zero, List.set_cons_succ])
            obtain ⟨x15, hx15⟩ : ∃ z, z = x12.alloc (.cells #[.slice none 0 0, .slice none 0 0, .slice none 0 0] 35) := ⟨_, rfl⟩
            rw [← hx15] at hHeld ⊢
            have bx15 : Below x12.heap.size x12 x15 := by rw [hx15]; first | exact (Below.refl _ _).alloc (Nat.le_refl _) _ | go_grown
            have zx15 : x15.heap.size ≤ x12.heap.size + 1 := by rw [hx15]; simp [World.size_drew, World.size_alloc]
            have yx15 : x12.heap.size + 1 ≤ x15.heap.size := by rw [hx15]; simp [World.size_drew, World.size_alloc]
            have k3 : Bk x15 x12.heap.size 35 #[.slice none 0 0, .slice none 0 0, .slice none 0 0] := by rw [hx15]; first | exact Bk.new _ _ _ | exact Bk.new W0 _ _
            have wk3 : W0.heap.size ≤ x12.heap.size := vx15
            clear hx15
            have ke6 := ke6.next bx15
            have oa := oa.next bx15
            refine wpAnyH_ready (rs := [11]) (by kernel_rfl) (by simp) ?_
            refine AllReadyH.cons rfl (fun K hK => ?_) (AllReadyH.nil)
            · refine step_push0 (by rfl) (.tmp 13) (.tmp 17) 33 39 iN (by rfl) Try.underlying33 hiN (x1.heap.size) A3 c3 (by rfl) (by rfl) ?_
              refine hK.out _ _ ?_ (fun hHeld2 => ?_)
              · (try dsimp only); exact hHeld
              clear hK K hHeld; have hHeld := hHeld2; clear hHeld2; (try simp only [Act.put, List.setIfInBounds_toArray, List.set_cons_zero, List.set_cons_succ])
              have ob : Own noC 39 3 x15 W0.heap.size (.slice (some ⟨x1.heap.size, 0, none⟩) 0 0) [] := Own.empty ke6 wke6
              obtain ⟨gob, hgob⟩ : ∃ g, g = x1.heap.size := ⟨_, rfl⟩
              have cob := 0
              have hob : gob = x1.heap.size ∨ gob = x15.heap.size := .inl hgob
              have ke6 := ke6
              have oa := oa
              have k3 := k3
              first | (refine take_on (i := 12) (v := ?_) rfl (by kernel_rfl) (by kernel_rfl) (by kernel_rfl) (fun _ _ _ h => h) rfl ?_ (by assumption) ?_; rotate_left; · (intro w' hSw; (try dsimp only at hSw); go_simp; (try with_reducible rfl))) | (refine take_off (i := 12) rfl (by kernel_rfl) (by kernel_rfl) (by kernel_rfl) (fun _ _ _ h => h) rfl (by assumption) ?_)
              (try simp only [Act.put, List.setIfInBounds_toArray, List.set_cons_zero, List.set_cons_succ])
              have e0 := k3.cell 0
              have e1 := k3.cell 1
              have e2 := k3.cell 2
              have f0 := k3.frozen 0
              have f1 := k3.frozen 1
              have f2 := k3.frozen 2
              have lt3 := k3.lt
              refine wpAnyH_ready (rs := [14]) (by kernel_rfl) (by simp) ?_
              refine AllReadyH.cons rfl (fun K hK => ?_) AllReadyH.nil
              rw [if_pos (by rfl)]
              go_simp
              refine hK.out _ _ ?_ (fun hHeld2 => ?_)
              · (try dsimp only); exact SB.mk (((hHeld.2.2.setCell wk3 _).setCell wk3 _).setCell wk3 _)
              clear hK K hHeld; have hHeld := hHeld2; clear hHeld2; (try simp only [Act.put, List.setIfInBounds_toArray, List.set_cons_zero, List.set_cons_succ])
              refine wpAnyH_done (by kernel_rfl) ?_ _
              have hF := hHeld.2.2
              clear hHeld
              go_wp2_with fail
              go_meet
              refine ⟨x12.heap.size, some ⟨goa, 0, none⟩, some ⟨(x1.heap.size), 0, none⟩, coa, 0, rfl, ?_, ?_, ?_, ?_, ?_, ?_, wk3, hF⟩
              · have h1 := ((k3.put 0 (.slice (some ⟨goa, 0, none⟩) n1 coa)).put 1 (.slice none 0 0)).put 2 (.slice (some ⟨(x1.heap.size), 0, none⟩) 0 0)
                simpa using h1
              · exact ((oa.setCell _ _ (fun k hk => by have h9 : goa = k := (by simpa [Value.ownBlock] using hk); simp only [ne_eq]; rcases hoa with h5 | h5 <;> omega)).setCell _ _ (fun k hk => by have h9 : goa = k := (by simpa [Value.ownBlock] using hk); simp only [ne_eq]; rcases hoa with h5 | h5 <;> omega)).setCell _ _ (fun k hk => by have h9 : goa = k := (by simpa [Value.ownBlock] using hk); simp only [ne_eq]; rcases hoa with h5 | h5 <;> omega)
              · exact ((ob.setCell _ _ (fun k hk => by have h9 : (x1.heap.size) = k := (by simpa [Value.ownBlock] using hk); simp only [ne_eq]; omega)).setCell _ _ (fun k hk => by have h9 : (x1.heap.size) = k := (by simpa [Value.ownBlock] using hk); simp only [ne_eq]; omega)).setCell _ _ (fun k hk => by have h9 : (x1.heap.size) = k := (by simpa [Value.ownBlock] using hk); simp only [ne_eq]; omega)
              · intro b h1 h2
                have h3 : goa = b := by simpa [Value.ownBlock] using h1
                have h4 : (x1.heap.size) = b := by simpa [Value.ownBlock] using h2
                rcases hoa with h5 | h5 <;> omega
              · intro e
                have h3 : goa = x12.heap.size := by simpa [Value.ownBlock] using e
                rcases hoa with h5 | h5 <;> omega
              · intro e
                have h3 : (x1.heap.size) = x12.heap.size := by simpa [Value.ownBlock] using e
                omega
        · rw [if_pos (by rfl)]
          go_simp
          have vx17 : W0.heap.size ≤ x11.heap.size := hHeld.2.1
          refine hK.out _ _ ?_ (fun hHeld2 => ?_)
          · (try dsimp only); exact SB.mk (by first | exact hHeld.2.2.alloc hHeld.2.1 _ | go_grown)
          clear hK K hHeld; have hHeld := hHeld2; clear hHeld2; (try simp only [Act.put, List.setIfInBounds_toArray, List.set_cons_zero, List.set_cons_succ])
          obtain ⟨x17, hx17⟩ : ∃ z, z = x11.alloc (.cells #[.slice none 0 0, .slice none 0 0, .slice none 0 0] 35) := ⟨_, rfl⟩
          rw [← hx17] at hHeld ⊢
          have bx17 : Below x11.heap.size x11 x17 := by rw [hx17]; first | exact (Below.refl _ _).alloc (Nat.le_refl _) _ | go_grown
          have zx17 : x17.heap.size ≤ x11.heap.size + 1 := by rw [hx17]; simp [World.size_drew, World.size_alloc]
          have yx17 : x11.heap.size + 1 ≤ x17.heap.size := by rw [hx17]; simp [World.size_drew, World.size_alloc]
          have k3 : Bk x17 x11.heap.size 35 #[.slice none 0 0, .slice none 0 0, .slice none 0 0] := by rw [hx17]; first | exact Bk.new _ _ _ | exact Bk.new W0 _ _
          have wk3 : W0.heap.size ≤ x11.heap.size := vx17
          clear hx17
          have ke0 := ke0.next bx17
          have ke6 := ke6.next bx17
          refine wpAnyH_ready (rs := [5]) (by kernel_rfl) (by simp) ?_
          refine AllReadyH.cons rfl (fun K hK => ?_) (AllReadyH.nil)
          · refine step_pushes elem_ch (by rfl) (.tmp 7) (.tmp 11) 31 (by rfl) Try.underlying31 W0.heap.size (.slice (some ⟨W0.heap.size, 0, none⟩) 0 0) [] cs (by rfl) (Own.empty ke0 wke0) 0 n1 rfl N1.out h01 A1 c1 (by rfl) (RCH.out.below (Below.next hBW0 hHeld.2.2)) (by unfold maxLen; omega) (by omega) hHeld.2.1 ?_
            intro goa coa x18 hownx18 hgrx18 hatx18 hltx18
            have zx18 := hgrx18.size
            have hoa : goa = W0.heap.size ∨ goa = x17.heap.size := by
              rcases hatx18 with h | h
              · left; have h9 : W0.heap.size = goa := by simpa [Value.ownBlock] using h
                exact h9.symm
              · exact .inr h
            refine hK.out _ _ ?_ (fun hHeld2 => ?_)
            · (try dsimp only); exact SB.mk (hHeld.2.2.grown hgrx18 hHeld.2.1 (fun b hb => by have h9 : W0.heap.size = b := (by simpa [Value.ownBlock] using hb); omega))
            clear hK K hHeld; have hHeld := hHeld2; clear hHeld2; (try simp only [Act.put, List.setIfInBounds_toArray, List.set_cons_zero, List.set_cons_succ])
            (try simp only [Nat.zero_add])
            have oa : Own chC 74 4 x18 W0.heap.size (.slice (some ⟨goa, 0, none⟩) n1 coa) cs := by
              have h9 := hownx18
              simp only [List.nil_append, Nat.zero_add] at h9
              exact h9
            have ke6 := (show Bk _ _ _ _ from (hgrx18.block _ ke6.lt (fun e => by have h9 := e.symm; simp [Value.ownBlock] at h9; omega)).trans ke6)
            have k3 := (show Bk _ _ _ _ from (hgrx18.block _ k3.lt (fun e => by have h9 := e.symm; simp [Value.ownBlock] at h9; omega)).trans k3)
            refine wpAnyH_ready (rs := [11]) (by kernel_rfl) (by simp) ?_
            refine AllReadyH.cons rfl (fun K hK => ?_) (AllReadyH.nil)
            · refine step_push0 (by rfl) (.tmp 13) (.tmp 17) 33 39 iN (by rfl) Try.underlying33 hiN (x1.heap.size) A3 c3 (by rfl) (by rfl) ?_
              refine hK.out _ _ ?_ (fun hHeld2 => ?_)
              · (try dsimp only); exact hHeld
              clear hK K hHeld; have hHeld := hHeld2; clear hHeld2; (try simp only [Act.put, List.setIfInBounds_toArray, List.set_cons_zero, List.set_cons_succ])
              have ob : Own noC 39 3 x18 W0.heap.size (.slice (some ⟨x1.heap.size, 0, none⟩) 0 0) [] := Own.empty ke6 wke6
              obtain ⟨gob, hgob⟩ : ∃ g, g = x1.heap.size := ⟨_, rfl⟩
              have cob := 0
              have hob : gob = x1.heap.size ∨ gob = x18.heap.size := .inl hgob
              have ke6 := ke6
              have k3 := k3
              have oa := oa
              first | (refine take_on (i := 12) (v := ?_) rfl (by kernel_rfl) (by kernel_rfl) (by kernel_rfl) (fun _ _ _ h => h) rfl ?_ (by assumption) ?_; rotate_left; · (intro w' hSw; (try dsimp only at hSw); go_simp; (try with_reducible rfl))) | (refine take_off (i := 12) rfl (by kernel_rfl) (by kernel_rfl) (by kernel_rfl) (fun _ _ _ h => h) rfl (by assumption) ?_)
              (try simp only [Act.put, List.setIfInBounds_toArray, List.set_cons_zero, List.set_cons_succ])
              have e0 := k3.cell 0
              have e1 := k3.cell 1
              have e2 := k3.cell 2
              have f0 := k3.frozen 0
              have f1 := k3.frozen 1
              have f2 := k3.frozen 2
              have lt3 := k3.lt
              refine wpAnyH_ready (rs := [14]) (by kernel_rfl) (by simp) ?_
              refine AllReadyH.cons rfl (fun K hK => ?_) AllReadyH.nil
              rw [if_pos (by rfl)]
              go_simp
              refine hK.out _ _ ?_ (fun hHeld2 => ?_)
              · (try dsimp only); exact SB.mk (((hHeld.2.2.setCell wk3 _).setCell wk3 _).setCell wk3 _)
              clear hK K hHeld; have hHeld := hHeld2; clear hHeld2; (try simp only [Act.put, List.setIfInBounds_toArray, List.set_cons_zero, List.set_cons_succ])
              refine wpAnyH_done (by kernel_rfl) ?_ _
              have hF := hHeld.2.2
              clear hHeld
              go_wp2_with fail
              go_meet
              refine ⟨x11.heap.size, some ⟨goa, 0, none⟩, some ⟨(x1.heap.size), 0, none⟩, coa, 0, rfl, ?_, ?_, ?_, ?_, ?_, ?_, wk3, hF⟩
              · have h1 := ((k3.put 0 (.slice (some ⟨goa, 0, none⟩) n1 coa)).put 1 (.slice none 0 0)).put 2 (.slice (some ⟨(x1.heap.size), 0, none⟩) 0 0)
                simpa using h1
              · exact ((oa.setCell _ _ (fun k hk => by have h9 : goa = k := (by simpa [Value.ownBlock] using hk); simp only [ne_eq]; rcases hoa with h5 | h5 <;> omega)).setCell _ _ (fun k hk => by have h9 : goa = k := (by simpa [Value.ownBlock] using hk); simp only [ne_eq]; rcases hoa with h5 | h5 <;> omega)).setCell _ _ (fun k hk => by have h9 : goa = k := (by simpa [Value.ownBlock] using hk); simp only [ne_eq]; rcases hoa with h5 | h5 <;> omega)
              · exact ((ob.setCell _ _ (fun k hk => by have h9 : (x1.heap.size) = k := (by simpa [Value.ownBlock] using hk); simp only [ne_eq]; omega)).setCell _ _ (fun k hk => by have h9 : (x1.heap.size) = k := (by simpa [Value.ownBlock] using hk); simp only [ne_eq]; omega)).setCell _ _ (fun k hk => by have h9 : (x1.heap.size) = k := (by simpa [Value.ownBlock] using hk); simp only [ne_eq]; omega)
              · intro b h1 h2
                have h3 : goa = b := by simpa [Value.ownBlock] using h1
                have h4 : (x1.heap.size) = b := by simpa [Value.ownBlock] using h2
                rcases hoa with h5 | h5 <;> omega
              · intro e
                have h3 : goa = x11.heap.size := by simpa [Value.ownBlock] using e
                rcases hoa with h5 | h5 <;> omega
              · intro e
                have h3 : (x1.heap.size) = x11.heap.size := by simpa [Value.ownBlock] using e
                omega
      · rw [if_pos (by rfl)]
        go_simp
        have vx20 : W0.heap.size ≤ x1.heap.size := hHeld.2.1
        refine hK.out _ _ ?_ (fun hHeld2 => ?_)
        · (try dsimp only); exact SB.mk (by first | exact hHeld.2.2.alloc hHeld.2.1 _ | go_grown)
        clear hK K hHeld; have hHeld := hHeld2; clear hHeld2; (try simp only [Act.put, List.setIfInBounds_toArray, List.set_cons_zero, List.set_cons_succ])
        obtain ⟨x20, hx20⟩ : ∃ z, z = x1.alloc (.cells #[.slice none 0 0, .slice none 0 0, .slice none 0 0] 35) := ⟨_, rfl⟩
        rw [← hx20] at hHeld ⊢
        have bx20 : Below x1.heap.size x1 x20 := by rw [hx20]; first | exact (Below.refl _ _).alloc (Nat.le_refl _) _ | go_grown
        have zx20 : x20.heap.size ≤ x1.heap.size + 1 := by rw [hx20]; simp [World.size_drew, World.size_alloc]
        have yx20 : x1.heap.size + 1 ≤ x20.heap.size := by rw [hx20]; simp [World.size_drew, World.size_alloc]
        have k3 : Bk x20 x1.heap.size 35 #[.slice none 0 0, .slice none 0 0, .slice none 0 0] := by rw [hx20]; first | exact Bk.new _ _ _ | exact Bk.new W0 _ _
        have wk3 : W0.heap.size ≤ x1.heap.size := vx20
        clear hx20
        have ke0 := ke0.next bx20
        refine wpAnyH_ready (rs := [5, 6]) (by kernel_rfl) (by simp) ?_
        refine AllReadyH.cons rfl (fun K hK => ?_) (AllReadyH.cons rfl (fun K hK => ?_) (AllReadyH.nil))
        · refine step_pushes elem_ch (by rfl) (.tmp 7) (.tmp 11) 31 (by rfl) Try.underlying31 W0.heap.size (.slice (some ⟨W0.heap.size, 0, none⟩) 0 0) [] cs (by rfl) (Own.empty ke0 wke0) 0 n1 rfl N1.out h01 A1 c1 (by rfl) (RCH.out.below (Below.next hBW0 hHeld.2.2)) (by unfold maxLen; omega) (by omega) hHeld.2.1 ?_
          intro goa coa x21 hownx21 hgrx21 hatx21 hltx21
          have zx21 := hgrx21.size
          have hoa : goa = W0.heap.size ∨ goa = x20.heap.size := by
            rcases hatx21 with h | h
            · left; have h9 : W0.heap.size = goa := by simpa [Value.ownBlock] using h
              exact h9.symm
            · exact .inr h
          refine hK.out _ _ ?_ (fun hHeld2 => ?_)
          · (try dsimp only); exact SB.mk (hHeld.2.2.grown hgrx21 hHeld.2.1 (fun b hb => by have h9 : W0.heap.size = b := (by simpa [Value.ownBlock] using hb); omega))
          clear hK K hHeld; have hHeld := hHeld2; clear hHeld2; (try simp only [Act.put, List.setIfInBounds_toArray, List.set_cons_zero, List.set_cons_succ])
          (try simp only [Nat.zero_add])
          have oa : Own chC 74 4 x21 W0.heap.size (.slice (some ⟨goa, 0, none⟩) n1 coa) cs := by
            have h9 := hownx21
            simp only [List.nil_append, Nat.zero_add] at h9
            exact h9
          have k3 := (show Bk _ _ _ _ from (hgrx21.block _ k3.lt (fun e => by have h9 := e.symm; simp [Value.ownBlock] at h9; omega)).trans k3)
          refine wpAnyH_ready (rs := [6]) (by kernel_rfl) (by simp) ?_
          refine AllReadyH.cons rfl (fun K hK => ?_) (AllReadyH.nil)
          · rw [if_pos (by rfl)]
            go_simp
            have vx22 : W0.heap.size ≤ x21.heap.size := hHeld.2.1
            refine hK.out _ _ ?_ (fun hHeld2 => ?_)
            · (try dsimp only); exact SB.mk (by first | exact hHeld.2.2.alloc hHeld.2.1 _ | go_grown)
            clear hK K hHeld; have hHeld := hHeld2; clear hHeld2; (try simp only [Act.put, List.setIfInBounds_toArray, List.set_cons_zero, List.set_cons_succ])
            obtain ⟨x22, hx22⟩ : ∃ z, z = x21.alloc (.cells #[] 39) := ⟨_, rfl⟩
            rw [← hx22] at hHeld ⊢
            have bx22 : Below x21.heap.size x21 x22 := by rw [hx22]; first | exact (Below.refl _ _).alloc (Nat.le_refl _) _ | go_grown
            have zx22 : x22.heap.size ≤ x21.heap.size + 1 := by rw [hx22]; simp [World.size_drew, World.size_alloc]
            have yx22 : x21.heap.size + 1 ≤ x22.heap.size := by rw [hx22]; simp [World.size_drew, World.size_alloc]
            have ke6 : Bk x22 x21.heap.size 39 #[] := by rw [hx22]; first | exact Bk.new _ _ _ | exact Bk.new W0 _ _
            have wke6 : W0.heap.size ≤ x21.heap.size := vx22
            clear hx22
            have k3 := k3.next bx22
            have oa := oa.next bx22
            refine wpAnyH_ready (rs := [11]) (by kernel_rfl) (by simp) ?_
            refine AllReadyH.cons rfl (fun K hK => ?_) (AllReadyH.nil)
            · refine step_push0 (by rfl) (.tmp 13) (.tmp 17) 33 39 iN (by rfl) Try.underlying33 hiN (x21.heap.size) A3 c3 (by rfl) (by rfl) ?_
              refine hK.out _ _ ?_ (fun hHeld2 => ?_)
              · (try dsimp only); exact hHeld
              clear hK K hHeld; have hHeld := hHeld2; clear hHeld2; (try simp only [Act.put, List.setIfInBounds_toArray, List.set_cons_zero, List.set_cons_succ])
              have ob : Own noC 39 3 x22 W0.heap.size (.slice (some ⟨x21.heap.size, 0, none⟩) 0 0) [] := Own.empty ke6 wke6
              obtain ⟨gob, hgob⟩ : ∃ g, g = x21.heap.size := ⟨_, rfl⟩
              have cob := 0
              have hob : gob = x21.heap.size ∨ gob = x22.heap.size := .inl hgob
              have k3 := k3
              have oa := oa
              have ke6 := ke6
              first | (refine take_on (i := 12) (v := ?_) rfl (by kernel_rfl) (by kernel_rfl) (by kernel_rfl) (fun _ _ _ h => h) rfl ?_ (by assumption) ?_; rotate_left; · (intro w' hSw; (try dsimp only at hSw); go_simp; (try with_reducible rfl))) | (refine take_off (i := 12) rfl (by kernel_rfl) (by kernel_rfl) (by kernel_rfl) (fun _ _ _ h => h) rfl (by assumption) ?_)
              (try simp only [Act.put, List.setIfInBounds_toArray, List.set_cons_zero, List.set_cons_succ])
              have e0 := k3.cell 0
              have e1 := k3.cell 1
              have e2 := k3.cell 2
              have f0 := k3.frozen 0
              have f1 := k3.frozen 1
              have f2 := k3.frozen 2
              have lt3 := k3.lt
              refine wpAnyH_ready (rs := [14]) (by kernel_rfl) (by simp) ?_
              refine AllReadyH.cons rfl (fun K hK => ?_) AllReadyH.nil
              rw [if_pos (by rfl)]
              go_simp
              refine hK.out _ _ ?_ (fun hHeld2 => ?_)
              · (try dsimp only); exact SB.mk (((hHeld.2.2.setCell wk3 _).setCell wk3 _).setCell wk3 _)
              clear hK K hHeld; have hHeld := hHeld2; clear hHeld2; (try simp only [Act.put, List.setIfInBounds_toArray, List.set_cons_zero, List.set_cons_succ])
              refine wpAnyH_done (by kernel_rfl) ?_ _
              have hF := hHeld.2.2
              clear hHeld
              go_wp2_with fail
              go_meet
              refine ⟨x1.heap.size, some ⟨goa, 0, none⟩, some ⟨(x21.heap.size), 0, none⟩, coa, 0, rfl, ?_, ?_, ?_, ?_, ?_, ?_, wk3, hF⟩
              · have h1 := ((k3.put 0 (.slice (some ⟨goa, 0, none⟩) n1 coa)).put 1 (.slice none 0 0)).put 2 (.slice (some ⟨(x21.heap.size), 0, none⟩) 0 0)
                simpa using h1
              · exact ((oa.setCell _ _ (fun k hk => by have h9 : goa = k := (by simpa [Value.ownBlock] using hk); simp only [ne_eq]; rcases hoa with h5 | h5 <;> omega)).setCell _ _ (fun k hk => by have h9 : goa = k := (by simpa [Value.ownBlock] using hk); simp only [ne_eq]; rcases hoa with h5 | h5 <;> omega)).setCell _ _ (fun k hk => by have h9 : goa = k := (by simpa [Value.ownBlock] using hk); simp only [ne_eq]; rcases hoa with h5 | h5 <;> omega)
              · exact ((ob.setCell _ _ (fun k hk => by have h9 : (x21.heap.size) = k := (by simpa [Value.ownBlock] using hk); simp only [ne_eq]; omega)).setCell _ _ (fun k hk => by have h9 : (x21.heap.size) = k := (by simpa [Value.ownBlock] using hk); simp only [ne_eq]; omega)).setCell _ _ (fun k hk => by have h9 : (x21.heap.size) = k := (by simpa [Value.ownBlock] using hk); simp only [ne_eq]; omega)
              · intro b h1 h2
                have h3 : goa = b := by simpa [Value.ownBlock] using h1
                have h4 : (x21.heap.size) = b := by simpa [Value.ownBlock] using h2
                rcases hoa with h5 | h5 <;> omega
              · intro e
                have h3 : goa = x1.heap.size := by simpa [Value.ownBlock] using e
                rcases hoa with h5 | h5 <;> omega
              · intro e
                have h3 : (x21.heap.size) = x1.heap.size := by simpa [Value.ownBlock] using e
                omega
        · rw [if_pos (by rfl)]
          go_simp
          have vx24 : W0.heap.size ≤ x20.heap.size := hHeld.2.1
          refine hK.out _ _ ?_ (fun hHeld2 => ?_)
          · (try dsimp only); exact SB.mk (by first | exact hHeld.2.2.alloc hHeld.2.1 _ | go_grown)
          clear hK K hHeld; have hHeld := hHeld2; clear hHeld2; (try simp only [Act.put, List.setIfInBounds_toArray, List.set_cons_zero, List.set_cons_succ])
          obtain ⟨x24, hx24⟩ : ∃ z, z = x20.alloc (.cells #[] 39) := ⟨_, rfl⟩
          rw [← hx24] at hHeld ⊢
          have bx24 : Below x20.heap.size x20 x24 := by rw [hx24]; first | exact (Below.refl _ _).alloc (Nat.le_refl _) _ | go_grown
          have zx24 : x24.heap.size ≤ x20.heap.size + 1 := by rw [hx24]; simp [World.size_drew, World.size_alloc]
          have yx24 : x20.heap.size + 1 ≤ x24.heap.size := by rw [hx24]; simp [World.size_drew, World.size_alloc]
          have ke6 : Bk x24 x20.heap.size 39 #[] := by rw [hx24]; first | exact Bk.new _ _ _ | exact Bk.new W0 _ _
          have wke6 : W0.heap.size ≤ x20.heap.size := vx24
          clear hx24
          have ke0 := ke0.next bx24
          have k3 := k3.next bx24
          refine wpAnyH_ready (rs := [5]) (by kernel_rfl) (by simp) ?_
          refine AllReadyH.cons rfl (fun K hK => ?_) (AllReadyH.nil)
          · refine step_pushes elem_ch (by rfl) (.tmp 7) (.tmp 11) 31 (by rfl) Try.underlying31 W0.heap.size (.slice (some ⟨W0.heap.size, 0, none⟩) 0 0) [] cs (by rfl) (Own.empty ke0 wke0) 0 n1 rfl N1.out h01 A1 c1 (by rfl) (RCH.out.below (Below.next hBW0 hHeld.2.2)) (by unfold maxLen; omega) (by omega) hHeld.2.1 ?_
            intro goa coa x25 hownx25 hgrx25 hatx25 hltx25
            have zx25 := hgrx25.size
            have hoa : goa = W0.heap.size ∨ goa = x24.heap.size := by
              rcases hatx25 with h | h
              · left; have h9 : W0.heap.size = goa := by simpa [Value.ownBlock] using h
                exact h9.symm
              · exact .inr h
            refine hK.out _ _ ?_ (fun hHeld2 => ?_)
            · (try dsimp only); exact SB.mk (hHeld.2.2.grown hgrx25 hHeld.2.1 (fun b hb => by have h9 : W0.heap.size = b := (by simpa [Value.ownBlock] using hb); omega))
            clear hK K hHeld; have hHeld := hHeld2; clear hHeld2; (try simp only [Act.put, List.setIfInBounds_toArray, List.set_cons_zero, List.set_cons_succ])
            (try simp only [Nat.zero_add])
            have oa : Own chC 74 4 x25 W0.heap.size (.slice (some ⟨goa, 0, none⟩) n1 coa) cs := by
              have h9 := hownx25
              simp only [List.nil_append, Nat.zero_add] at h9
              exact h9
            have k3 := (show Bk _ _ _ _ from (hgrx25.block _ k3.lt (fun e => by have h9 := e.symm; simp [Value.ownBlock] at h9; omega)).trans k3)
            have ke6 := (show Bk _ _ _ _ from (hgrx25.block _ ke6.lt (fun e => by have h9 := e.symm; simp [Value.ownBlock] at h9; omega)).trans ke6)
            refine wpAnyH_ready (rs := [11]) (by kernel_rfl) (by simp) ?_
            refine AllReadyH.cons rfl (fun K hK => ?_) (AllReadyH.nil)
            · refine step_push0 (by rfl) (.tmp 13) (.tmp 17) 33 39 iN (by rfl) Try.underlying33 hiN (x20.heap.size) A3 c3 (by rfl) (by rfl) ?_
              refine hK.out _ _ ?_ (fun hHeld2 => ?_)
              · (try dsimp only); exact hHeld
              clear hK K hHeld; have hHeld := hHeld2; clear hHeld2; (try simp only [Act.put, List.setIfInBounds_toArray, List.set_cons_zero, List.set_cons_succ])
              have ob : Own noC 39 3 x25 W0.heap.size (.slice (some ⟨x20.heap.size, 0, none⟩) 0 0) [] := Own.empty ke6 wke6
              obtain ⟨gob, hgob⟩ : ∃ g, g = x20.heap.size := ⟨_, rfl⟩
              have cob := 0
              have hob : gob = x20.heap.size ∨ gob = x25.heap.size := .inl hgob
              have k3 := k3
              have ke6 := ke6
              have oa := oa
              first | (refine take_on (i := 12) (v := ?_) rfl (by kernel_rfl) (by kernel_rfl) (by kernel_rfl) (fun _ _ _ h => h) rfl ?_ (by assumption) ?_; rotate_left; · (intro w' hSw; (try dsimp only at hSw); go_simp; (try with_reducible rfl))) | (refine take_off (i := 12) rfl (by kernel_rfl) (by kernel_rfl) (by kernel_rfl) (fun _ _ _ h => h) rfl (by assumption) ?_)
              (try simp only [Act.put, List.setIfInBounds_toArray, List.set_cons_zero, List.set_cons_succ])
              have e0 := k3.cell 0
              have e1 := k3.cell 1
              have e2 := k3.cell 2
              have f0 := k3.frozen 0
              have f1 := k3.frozen 1
              have f2 := k3.frozen 2
              have lt3 := k3.lt
              refine wpAnyH_ready (rs := [14]) (by kernel_rfl) (by simp) ?_
              refine AllReadyH.cons rfl (fun K hK => ?_) AllReadyH.nil
              rw [if_pos (by rfl)]
              go_simp
              refine hK.out _ _ ?_ (fun hHeld2 => ?_)
              · (try dsimp only); exact SB.mk (((hHeld.2.2.setCell wk3 _).setCell wk3 _).setCell wk3 _)
              clear hK K hHeld; have hHeld := hHeld2; clear hHeld2; (try simp only [Act.put, List.setIfInBounds_toArray, List.set_cons_zero, List.set_cons_succ])
              refine wpAnyH_done (by kernel_rfl) ?_ _
              have hF := hHeld.2.2
              clear hHeld
              go_wp2_with fail
              go_meet
              refine ⟨x1.heap.size, some ⟨goa, 0, none⟩, some ⟨(x20.heap.size), 0, none⟩, coa, 0, rfl, ?_, ?_, ?_, ?_, ?_, ?_, wk3, hF⟩
              · have h1 := ((k3.put 0 (.slice (some ⟨goa, 0, none⟩) n1 coa)).put 1 (.slice none 0 0)).put 2 (.slice (some ⟨(x20.heap.size), 0, none⟩) 0 0)
                simpa using h1
              · exact ((oa.setCell _ _ (fun k hk => by have h9 : goa = k := (by simpa [Value.ownBlock] using hk); simp only [ne_eq]; rcases hoa with h5 | h5 <;> omega)).setCell _ _ (fun k hk => by have h9 : goa = k := (by simpa [Value.ownBlock] using hk); simp only [ne_eq]; rcases hoa with h5 | h5 <;> omega)).setCell _ _ (fun k hk => by have h9 : goa = k := (by simpa [Value.ownBlock] using hk); simp only [ne_eq]; rcases hoa with h5 | h5 <;> omega)
              · exact ((ob.setCell _ _ (fun k hk => by have h9 : (x20.heap.size) = k := (by simpa [Value.ownBlock] using hk); simp only [ne_eq]; omega)).setCell _ _ (fun k hk => by have h9 : (x20.heap.size) = k := (by simpa [Value.ownBlock] using hk); simp only [ne_eq]; omega)).setCell _ _ (fun k hk => by have h9 : (x20.heap.size) = k := (by simpa [Value.ownBlock] using hk); simp only [ne_eq]; omega)
              · intro b h1 h2
                have h3 : goa = b := by simpa [Value.ownBlock] using h1
                have h4 : (x20.heap.size) = b := by simpa [Value.ownBlock] using h2
                rcases hoa with h5 | h5 <;> omega
              · intro e
                have h3 : goa = x1.heap.size := by simpa [Value.ownBlock] using e
                rcases hoa with h5 | h5 <;> omega
              · intro e
                have h3 : (x20.heap.size) = x1.heap.size := by simpa [Value.ownBlock] using e
                omega
    · rw [if_pos (by rfl)]
      go_simp
      have vx27 : W0.heap.size ≤ W0.drew.heap.size := hHeld.2.1
      refine hK.out _ _ ?_ (fun hHeld2 => ?_)
      · (try dsimp only); exact SB.mk (by first | exact hHeld.2.2.alloc hHeld.2.1 _ | go_grown)
      clear hK K hHeld; have hHeld := hHeld2; clear hHeld2; (try simp only [Act.put, List.setIfInBounds_toArray, List.set_cons_zero, List.set_cons_succ])
      obtain ⟨x27, hx27⟩ : ∃ z, z = (W0.alloc (.cells #[] 39)).drew := ⟨_, rfl⟩
      rw [← hx27] at hHeld ⊢
      have bx27 : Below W0.drew.heap.size W0.drew x27 := by rw [hx27]; first | exact (Below.refl _ _).alloc (Nat.le_refl _) _ | go_grown
      have zx27 : x27.heap.size ≤ W0.heap.size + 1 := by rw [hx27]; simp [World.size_drew, World.size_alloc]
      have yx27 : W0.heap.size + 1 ≤ x27.heap.size := by rw [hx27]; simp [World.size_drew, World.size_alloc]
      have ke6 : Bk x27 W0.heap.size 39 #[] := by rw [hx27]; first | exact Bk.new _ _ _ | exact Bk.new W0 _ _
      have wke6 : W0.heap.size ≤ W0.heap.size := vx27
      clear hx27
      refine wpAnyH_ready (rs := [0, 13]) (by kernel_rfl) (by simp) ?_
      refine AllReadyH.cons rfl (fun K hK => ?_) (AllReadyH.cons rfl (fun K hK => ?_) (AllReadyH.nil))
      · rw [if_pos (by rfl)]
        go_simp
        have vx28 : W0.heap.size ≤ x27.heap.size := hHeld.2.1
        refine hK.out _ _ ?_ (fun hHeld2 => ?_)
        · (try dsimp only); exact SB.mk (by first | exact hHeld.2.2.alloc hHeld.2.1 _ | go_grown)
        clear hK K hHeld; have hHeld := hHeld2; clear hHeld2; (try simp only [Act.put, List.setIfInBounds_toArray, List.set_cons_zero, List.set_cons_succ])
        obtain ⟨x28, hx28⟩ : ∃ z, z = x27.alloc (.cells #[] 74) := ⟨_, rfl⟩
        rw [← hx28] at hHeld ⊢
        have bx28 : Below x27.heap.size x27 x28 := by rw [hx28]; first | exact (Below.refl _ _).alloc (Nat.le_refl _) _ | go_grown
        have zx28 : x28.heap.size ≤ x27.heap.size + 1 := by rw [hx28]; simp [World.size_drew, World.size_alloc]
        have yx28 : x27.heap.size + 1 ≤ x28.heap.size := by rw [hx28]; simp [World.size_drew, World.size_alloc]
        have ke0 : Bk x28 x27.heap.size 74 #[] := by rw [hx28]; first | exact Bk.new _ _ _ | exact Bk.new W0 _ _
        have wke0 : W0.heap.size ≤ x27.heap.size := vx28
        clear hx28
        have ke6 := ke6.next bx28
        refine wpAnyH_ready (rs := [5, 13]) (by kernel_rfl) (by simp) ?_
        refine AllReadyH.cons rfl (fun K hK => ?_) (AllReadyH.cons rfl (fun K hK => ?_) (AllReadyH.nil))
        · refine step_pushes elem_ch (by rfl) (.tmp 7) (.tmp 11) 31 (by rfl) Try.underlying31 W0.heap.size (.slice (some ⟨x27.heap.size, 0, none⟩) 0 0) [] cs (by rfl) (Own.empty ke0 wke0) 0 n1 rfl N1.out h01 A1 c1 (by rfl) (RCH.out.below (Below.next hBW0 hHeld.2.2)) (by unfold maxLen; omega) (by omega) hHeld.2.1 ?_
          intro goa coa x29 hownx29 hgrx29 hatx29 hltx29
          have zx29 := hgrx29.size
          have hoa : goa = x27.heap.size ∨ goa = x28.heap.size := by
            rcases hatx29 with h | h
            · left; have h9 : x27.heap.size = goa := by simpa [Value.ownBlock] using h
              exact h9.symm
            · exact .inr h
          refine hK.out _ _ ?_ (fun hHeld2 => ?_)
          · (try dsimp only); exact SB.mk (hHeld.2.2.grown hgrx29 hHeld.2.1 (fun b hb => by have h9 : x27.heap.size = b := (by simpa [Value.ownBlock] using hb); omega))
          clear hK K hHeld; have hHeld := hHeld2; clear hHeld2; (try simp only [Act.put, List.setIfInBounds_toArray, List.set_cons_zero, List.set_cons_succ])
          (try simp only [Nat.zero_add])
          have oa : Own chC 74 4 x29 W0.heap.size (.slice (some ⟨goa, 0, none⟩) n1 coa) cs := by
            have h9 := hownx29
            simp only [List.nil_append, Nat.zero_add] at h9
            exact h9
          have ke6 := (show Bk _ _ _ _ from (hgrx29.block _ ke6.lt (fun e => by have h9 := e.symm; simp [Value.ownBlock] at h9; omega)).trans ke6)
          refine wpAnyH_ready (rs := [11, 13]) (by kernel_rfl) (by simp) ?_
          refine AllReadyH.cons rfl (fun K hK => ?_) (AllReadyH.cons rfl (fun K hK => ?_) (AllReadyH.nil))
          · refine step_push0 (by rfl) (.tmp 13) (.tmp 17) 33 39 iN (by rfl) Try.underlying33 hiN (W0.heap.size) A3 c3 (by rfl) (by rfl) ?_
            refine hK.out _ _ ?_ (fun hHeld2 => ?_)
            · (try dsimp only); exact hHeld
            clear hK K hHeld; have hHeld := hHeld2; clear hHeld2; (try simp only [Act.put, List.setIfInBounds_toArray, List.set_cons_zero, List.set_cons_succ])
            have ob : Own noC 39 3 x29 W0.heap.size (.slice (some ⟨W0.heap.size, 0, none⟩) 0 0) [] := Own.empty ke6 wke6
            obtain ⟨gob, hgob⟩ : ∃ g, g = W0.heap.size := ⟨_, rfl⟩
            have cob := 0
            have hob : gob = W0.heap.size ∨ gob = x29.heap.size := .inl hgob
            have ke6 := ke6
            have oa := oa
            first | (refine take_on (i := 12) (v := ?_) rfl (by kernel_rfl) (by kernel_rfl) (by kernel_rfl) (fun _ _ _ h => h) rfl ?_ (by assumption) ?_; rotate_left; · (intro w' hSw; (try dsimp only at hSw); go_simp; (try with_reducible rfl))) | (refine take_off (i := 12) rfl (by kernel_rfl) (by kernel_rfl) (by kernel_rfl) (fun _ _ _ h => h) rfl (by assumption) ?_)
            (try simp only [Act.put, List.setIfInBounds_toArray, List.set_cons_zero, List.set_cons_succ])
            refine wpAnyH_ready (rs := [13]) (by kernel_rfl) (by simp) ?_
            refine AllReadyH.cons rfl (fun K hK => ?_) (AllReadyH.nil)
            · rw [if_pos (by rfl)]
              go_simp
              have vx31 : W0.heap.size ≤ x29.heap.size := hHeld.2.1
              refine hK.out _ _ ?_ (fun hHeld2 => ?_)
              · (try dsimp only); exact SB.mk (by first | exact hHeld.2.2.alloc hHeld.2.1 _ | go_grown)
              clear hK K hHeld; have hHeld := hHeld2; clear hHeld2; (try simp only [Act.put, List.setIfInBounds_toArray, List.set_cons_zero, List.set_cons_succ])
              obtain ⟨x31, hx31⟩ : ∃ z, z = x29.alloc (.cells #[.slice none 0 0, .slice none 0 0, .slice none 0 0] 35) := ⟨_, rfl⟩
              rw [← hx31] at hHeld ⊢
              have bx31 : Below x29.heap.size x29 x31 := by rw [hx31]; first | exact (Below.refl _ _).alloc (Nat.le_refl _) _ | go_grown
              have zx31 : x31.heap.size ≤ x29.heap.size + 1 := by rw [hx31]; simp [World.size_drew, World.size_alloc]
              have yx31 : x29.heap.size + 1 ≤ x31.heap.size := by rw [hx31]; simp [World.size_drew, World.size_alloc]
              have k3 : Bk x31 x29.heap.size 35 #[.slice none 0 0, .slice none 0 0, .slice none 0 0] := by rw [hx31]; first | exact Bk.new _ _ _ | exact Bk.new W0 _ _
              have wk3 : W0.heap.size ≤ x29.heap.size := vx31
              clear hx31
              have ke6 := ke6.next bx31
              have oa := oa.next bx31
              have ob := ob.next bx31
              have e0 := k3.cell 0
              have e1 := k3.cell 1
              have e2 := k3.cell 2
              have f0 := k3.frozen 0
              have f1 := k3.frozen 1
              have f2 := k3.frozen 2
              have lt3 := k3.lt
              refine wpAnyH_ready (rs := [14]) (by kernel_rfl) (by simp) ?_
              refine AllReadyH.cons rfl (fun K hK => ?_) AllReadyH.nil
              rw [if_pos (by rfl)]
              go_simp
              refine hK.out _ _ ?_ (fun hHeld2 => ?_)
              · (try dsimp only); exact SB.mk (((hHeld.2.2.setCell wk3 _).setCell wk3 _).setCell wk3 _)
              clear hK K hHeld; have hHeld := hHeld2; clear hHeld2; (try simp only [Act.put, List.setIfInBounds_toArray, List.set_cons_zero, List.set_cons_succ])
              refine wpAnyH_done (by kernel_rfl) ?_ _
              have hF := hHeld.2.2
              clear hHeld
              go_wp2_with fail
              go_meet
              refine ⟨x29.heap.size, some ⟨goa, 0, none⟩, some ⟨(W0.heap.size), 0, none⟩, coa, 0, rfl, ?_, ?_, ?_, ?_, ?_, ?_, wk3, hF⟩
              · have h1 := ((k3.put 0 (.slice (some ⟨goa, 0, none⟩) n1 coa)).put 1 (.slice none 0 0)).put 2 (.slice (some ⟨(W0.heap.size), 0, none⟩) 0 0)
                simpa using h1
              · exact ((oa.setCell _ _ (fun k hk => by have h9 : goa = k := (by simpa [Value.ownBlock] using hk); simp only [ne_eq]; rcases hoa with h5 | h5 <;> omega)).setCell _ _ (fun k hk => by have h9 : goa = k := (by simpa [Value.ownBlock] using hk); simp only [ne_eq]; rcases hoa with h5 | h5 <;> omega)).setCell _ _ (fun k hk => by have h9 : goa = k := (by simpa [Value.ownBlock] using hk); simp only [ne_eq]; rcases hoa with h5 | h5 <;> omega)
              · exact ((ob.setCell _ _ (fun k hk => by have h9 : (W0.heap.size) = k := (by simpa [Value.ownBlock] using hk); simp only [ne_eq]; omega)).setCell _ _ (fun k hk => by have h9 : (W0.heap.size) = k := (by simpa [Value.ownBlock] using hk); simp only [ne_eq]; omega)).setCell _ _ (fun k hk => by have h9 : (W0.heap.size) = k := (by simpa [Value.ownBlock] using hk); simp only [ne_eq]; omega)
              · intro b h1 h2
                have h3 : goa = b := by simpa [Value.ownBlock] using h1
                have h4 : (W0.heap.size) = b := by simpa [Value.ownBlock] using h2
                rcases hoa with h5 | h5 <;> omega
              · intro e
                have h3 : goa = x29.heap.size := by simpa [Value.ownBlock] using e
                rcases hoa with h5 | h5 <;> omega
              · intro e
                have h3 : (W0.heap.size) = x29.heap.size := by simpa [Value.ownBlock] using e
                omega
          · rw [if_pos (by rfl)]
            go_simp
            have vx32 : W0.heap.size ≤ x29.heap.size := hHeld.2.1
            refine hK.out _ _ ?_ (fun hHeld2 => ?_)
            · (try dsimp only); exact SB.mk (by first | exact hHeld.2.2.alloc hHeld.2.1 _ | go_grown)
            clear hK K hHeld; have hHeld := hHeld2; clear hHeld2; (try simp only [Act.put, List.setIfInBounds_toArray, List.set_cons_zero, List.set_cons_succ])
            obtain ⟨x32, hx32⟩ : ∃ z, z = x29.alloc (.cells #[.slice none 0 0, .slice none 0 0, .slice none 0 0] 35) := ⟨_, rfl⟩
            rw [← hx32] at hHeld ⊢
            have bx32 : Below x29.heap.size x29 x32 := by rw [hx32]; first | exact (Below.refl _ _).alloc (Nat.le_refl _) _ | go_grown
            have zx32 : x32.heap.size ≤ x29.heap.size + 1 := by rw [hx32]; simp [World.size_drew, World.size_alloc]
            have yx32 : x29.heap.size + 1 ≤ x32.heap.size := by rw [hx32]; simp [World.size_drew, World.size_alloc]
            have k3 : Bk x32 x29.heap.size 35 #[.slice none 0 0, .slice none 0 0, .slice none 0 0] := by rw [hx32]; first | exact Bk.new _ _ _ | exact Bk.new W0 _ _
            have wk3 : W0.heap.size ≤ x29.heap.size := vx32
            clear hx32
            have ke6 := ke6.next bx32
            have oa := oa.next bx32
            refine wpAnyH_ready (rs := [11]) (by kernel_rfl) (by simp) ?_
            refine AllReadyH.cons rfl (fun K hK => ?_) (AllReadyH.nil)
            · refine step_push0 (by rfl) (.tmp 13) (.tmp 17) 33 39 iN (by rfl) Try.underlying33 hiN (W0.heap.size) A3 c3 (by rfl) (by rfl) ?_
              refine hK.out _ _ ?_ (fun hHeld2 => ?_)
              · (try dsimp only); exact hHeld
              clear hK K hHeld; have hHeld := hHeld2; clear hHeld2; (try simp only [Act.put, List.setIfInBounds_toArray, List.set_cons_zero, List.set_cons_succ])
              have ob : Own noC 39 3 x32 W0.heap.size (.slice (some ⟨W0.heap.size, 0, none⟩) 0 0) [] := Own.empty ke6 wke6
              obtain ⟨gob, hgob⟩ : ∃ g, g = W0.heap.size := ⟨_, rfl⟩
              have cob := 0
              have hob : gob = W0.heap.size ∨ gob = x32.heap.size := .inl hgob
              have ke6 := ke6
              have oa := oa
              have k3 := k3
              first | (refine take_on (i := 12) (v := ?_) rfl (by kernel_rfl) (by kernel_rfl) (by kernel_rfl) (fun _ _ _ h => h) rfl ?_ (by assumption) ?_; rotate_left; · (intro w' hSw; (try dsimp only at hSw); go_simp; (try with_reducible rfl))) | (refine take_off (i := 12) rfl (by kernel_rfl) (by kernel_rfl) (by kernel_rfl) (fun _ _ _ h => h) rfl (by assumption) ?_)
              (try simp only [Act.put, List.setIfInBounds_toArray, List.set_cons_zero, List.set_cons_succ])
              have e0 := k3.cell 0
              have e1 := k3.cell 1
              have e2 := k3.cell 2
              have f0 := k3.frozen 0
              have f1 := k3.frozen 1
              have f2 := k3.frozen 2
              have lt3 := k3.lt
              refine wpAnyH_ready (rs := [14]) (by kernel_rfl) (by simp) ?_
              refine AllReadyH.cons rfl (fun K hK => ?_) AllReadyH.nil
              rw [if_pos (by rfl)]
              go_simp
              refine hK.out _ _ ?_ (fun hHeld2 => ?_)
              · (try dsimp only); exact SB.mk (((hHeld.2.2.setCell wk3 _).setCell wk3 _).setCell wk3 _)
              clear hK K hHeld; have hHeld := hHeld2; clear hHeld2; (try simp only [Act.put, List.setIfInBounds_toArray, List.set_cons_zero, List.set_cons_succ])
              refine wpAnyH_done (by kernel_rfl) ?_ _
              have hF := hHeld.2.2
              clear hHeld
              go_wp2_with fail
              go_meet
              refine ⟨x29.heap.size, some ⟨goa, 0, none⟩, some ⟨(W0.heap.size), 0, none⟩, coa, 0, rfl, ?_, ?_, ?_, ?_, ?_, ?_, wk3, hF⟩
              · have h1 := ((k3.put 0 (.slice (some ⟨goa, 0, none⟩) n1 coa)).put 1 (.slice none 0 0)).put 2 (.slice (some ⟨(W0.heap.size), 0, none⟩) 0 0)
                simpa using h1
              · exact ((oa.setCell _ _ (fun k hk => by have h9 : goa = k := (by simpa [Value.ownBlock] using hk); simp only [ne_eq]; rcases hoa with h5 | h5 <;> omega)).setCell _ _ (fun k hk => by have h9 : goa = k := (by simpa [Value.ownBlock] using hk); simp only [ne_eq]; rcases hoa with h5 | h5 <;> omega)).setCell _ _ (fun k hk => by have h9 : goa = k := (by simpa [Value.ownBlock] using hk); simp only [ne_eq]; rcases hoa with h5 | h5 <;> omega)
              · exact ((ob.setCell _ _ (fun k hk => by have h9 : (W0.heap.size) = k := (by simpa [Value.ownBlock] using hk); simp only [ne_eq]; omega)).setCell _ _ (fun k hk => by have h9 : (W0.heap.size) = k := (by simpa [Value.ownBlock] using hk); simp only [ne_eq]; omega)).setCell _ _ (fun k hk => by have h9 : (W0.heap.size) = k := (by simpa [Value.ownBlock] using hk); simp only [ne_eq]; omega)
              · intro b h1 h2
                have h3 : goa = b := by simpa [Value.ownBlock] using h1
                have h4 : (W0.heap.size) = b := by simpa [Value.ownBlock] using h2
                rcases hoa with h5 | h5 <;> omega
              · intro e
                have h3 : goa = x29.heap.size := by simpa [Value.ownBlock] using e
                rcases hoa with h5 | h5 <;> omega
              · intro e
                have h3 : (W0.heap.size) = x29.heap.size := by simpa [Value.ownBlock] using e
                omega
        · rw [if_pos (by rfl)]
          go_simp
          have vx34 : W0.heap.size ≤ x28.heap.size := hHeld.2.1
          refine hK.out _ _ ?_ (fun hHeld2 => ?_)
          · (try dsimp only); exact SB.mk (by first | exact hHeld.2.2.alloc hHeld.2.1 _ | go_grown)
          clear hK K hHeld; have hHeld := hHeld2; clear hHeld2; (try simp only [Act.put, List.setIfInBounds_toArray, List.set_cons_zero, List.set_cons_succ])
          obtain ⟨x34, hx34⟩ : ∃ z, z = x28.alloc (.cells #[.slice none 0 0, .slice none 0 0, .slice none 0 0] 35) := ⟨_, rfl⟩
          rw [← hx34] at hHeld ⊢
          have bx34 : Below x28.heap.size x28 x34 := by rw [hx34]; first | exact (Below.refl _ _).alloc (Nat.le_refl _) _ | go_grown
          have zx34 : x34.heap.size ≤ x28.heap.size + 1 := by rw [hx34]; simp [World.size_drew, World.size_alloc]
          have yx34 : x28.heap.size + 1 ≤ x34.heap.size := by rw [hx34]; simp [World.size_drew, World.size_alloc]
          have k3 : Bk x34 x28.heap.size 35 #[.slice none 0 0, .slice none 0 0, .slice none 0 0] := by rw [hx34]; first | exact Bk.new _ _ _ | exact Bk.new W0 _ _
          have wk3 : W0.heap.size ≤ x28.heap.size := vx34
          clear hx34
          have ke6 := ke6.next bx34
          have ke0 := ke0.next bx34
          refine wpAnyH_ready (rs := [5]) (by kernel_rfl) (by simp) ?_
          refine AllReadyH.cons rfl (fun K hK => ?_) (AllReadyH.nil)
          · refine step_pushes elem_ch (by rfl) (.tmp 7) (.tmp 11) 31 (by rfl) Try.underlying31 W0.heap.size (.slice (some ⟨x27.heap.size, 0, none⟩) 0 0) [] cs (by rfl) (Own.empty ke0 wke0) 0 n1 rfl N1.out h01 A1 c1 (by rfl) (RCH.out.below (Below.next hBW0 hHeld.2.2)) (by unfold maxLen; omega) (by omega) hHeld.2.1 ?_
            intro goa coa x35 hownx35 hgrx35 hatx35 hltx35
            have zx35 := hgrx35.size
            have hoa : goa = x27.heap.size ∨ goa = x34.heap.size := by
              rcases hatx35 with h | h
              · left; have h9 : x27.heap.size = goa := by simpa [Value.ownBlock] using h
                exact h9.symm
              · exact .inr h
            refine hK.out _ _ ?_ (fun hHeld2 => ?_)
            · (try dsimp only); exact SB.mk (hHeld.2.2.grown hgrx35 hHeld.2.1 (fun b hb => by have h9 : x27.heap.size = b := (by simpa [Value.ownBlock] using hb); omega))
            clear hK K hHeld; have hHeld := hHeld2; clear hHeld2; (try simp only [Act.put, List.setIfInBounds_toArray, List.set_cons_zero, List.set_cons_succ])
            (try simp only [Nat.zero_add])
            have oa : Own chC 74 4 x35 W0.heap.size (.slice (some ⟨goa, 0, none⟩) n1 coa) cs := by
              have h9 := hownx35
              simp only [List.nil_append, Nat.zero_add] at h9
              exact h9
            have ke6 := (show Bk _ _ _ _ from (hgrx35.block _ ke6.lt (fun e => by have h9 := e.symm; simp [Value.ownBlock] at h9; omega)).trans ke6)
            have k3 := (show Bk _ _ _ _ from (hgrx35.block _ k3.lt (fun e => by have h9 := e.symm; simp [Value.ownBlock] at h9; omega)).trans k3)
            refine wpAnyH_ready (rs := [11]) (by kernel_rfl) (by simp) ?_
            refine AllReadyH.cons rfl (fun K hK => ?_) (AllReadyH.nil)
            · refine step_push0 (by rfl) (.tmp 13) (.tmp 17) 33 39 iN (by rfl) Try.underlying33 hiN (W0.heap.size) A3 c3 (by rfl) (by rfl) ?_
              refine hK.out _ _ ?_ (fun hHeld2 => ?_)
              · (try dsimp only); exact hHeld
              clear hK K hHeld; have hHeld := hHeld2; clear hHeld2; (try simp only [Act.put, List.setIfInBounds_toArray, List.set_cons_zero, List.set_cons_succ])
              have ob : Own noC 39 3 x35 W0.heap.size (.slice (some ⟨W0.heap.size, 0, none⟩) 0 0) [] := Own.empty ke6 wke6
              obtain ⟨gob, hgob⟩ : ∃ g, g = W0.heap.size := ⟨_, rfl⟩
              have cob := 0
              have hob : gob = W0.heap.size ∨ gob = x35.heap.size := .inl hgob
              have ke6 := ke6
              have k3 := k3
              have oa := oa
              first | (refine take_on (i := 12) (v := ?_) rfl (by kernel_rfl) (by kernel_rfl) (by kernel_rfl) (fun _ _ _ h => h) rfl ?_ (by assumption) ?_; rotate_left; · (intro w' hSw; (try dsimp only at hSw); go_simp; (try with_reducible rfl))) | (refine take_off (i := 12) rfl (by kernel_rfl) (by kernel_rfl) (by kernel_rfl) (fun _ _ _ h => h) rfl (by assumption) ?_)
              (try simp only [Act.put, List.setIfInBounds_toArray, List.set_cons_zero, List.set_cons_succ])
              have e0 := k3.cell 0
              have e1 := k3.cell 1
              have e2 := k3.cell 2
              have f0 := k3.frozen 0
              have f1 := k3.frozen 1
              have f2 := k3.frozen 2
              have lt3 := k3.lt
              refine wpAnyH_ready (rs := [14]) (by kernel_rfl) (by simp) ?_
              refine AllReadyH.cons rfl (fun K hK => ?_) AllReadyH.nil
              rw [if_pos (by rfl)]
              go_simp
              refine hK.out _ _ ?_ (fun hHeld2 => ?_)
              · (try dsimp only); exact SB.mk (((hHeld.2.2.setCell wk3 _).setCell wk3 _).setCell wk3 _)
              clear hK K hHeld; have hHeld := hHeld2; clear hHeld2; (try simp only [Act.put, List.setIfInBounds_toArray, List.set_cons_zero, List.set_cons_succ])
              refine wpAnyH_done (by kernel_rfl) ?_ _
              have hF := hHeld.2.2
              clear hHeld
              go_wp2_with fail
              go_meet
              refine ⟨x28.heap.size, some ⟨goa, 0, none⟩, some ⟨(W0.heap.size), 0, none⟩, coa, 0, rfl, ?_, ?_, ?_, ?_, ?_, ?_, wk3, hF⟩
              · have h1 := ((k3.put 0 (.slice (some ⟨goa, 0, none⟩) n1 coa)).put 1 (.slice none 0 0)).put 2 (.slice (some ⟨(W0.heap.size), 0, none⟩) 0 0)
                simpa using h1
              · exact ((oa.setCell _ _ (fun k hk => by have h9 : goa = k := (by simpa [Value.ownBlock] using hk); simp only [ne_eq]; rcases hoa with h5 | h5 <;> omega)).setCell _ _ (fun k hk => by have h9 : goa = k := (by simpa [Value.ownBlock] using hk); simp only [ne_eq]; rcases hoa with h5 | h5 <;> omega)).setCell _ _ (fun k hk => by have h9 : goa = k := (by simpa [Value.ownBlock] using hk); simp only [ne_eq]; rcases hoa with h5 | h5 <;> omega)
              · exact ((ob.setCell _ _ (fun k hk => by have h9 : (W0.heap.size) = k := (by simpa [Value.ownBlock] using hk); simp only [ne_eq]; omega)).setCell _ _ (fun k hk => by have h9 : (W0.heap.size) = k := (by simpa [Value.ownBlock] using hk); simp only [ne_eq]; omega)).setCell _ _ (fun k hk => by have h9 : (W0.heap.size) = k := (by simpa [Value.ownBlock] using hk); simp only [ne_eq]; omega)
              · intro b h1 h2
                have h3 : goa = b := by simpa [Value.ownBlock] using h1
                have h4 : (W0.heap.size) = b := by simpa [Value.ownBlock] using h2
                rcases hoa with h5 | h5 <;> omega
              · intro e
                have h3 : goa = x28.heap.size := by simpa [Value.ownBlock] using e
                rcases hoa with h5 | h5 <;> omega
              · intro e
                have h3 : (W0.heap.size) = x28.heap.size := by simpa [Value.ownBlock] using e
                omega
      · rw [if_pos (by rfl)]
        go_simp
        have vx37 : W0.heap.size ≤ x27.heap.size := hHeld.2.1
        refine hK.out _ _ ?_ (fun hHeld2 => ?_)
        · (try dsimp only); exact SB.mk (by first | exact hHeld.2.2.alloc hHeld.2.1 _ | go_grown)
        clear hK K hHeld; have hHeld := hHeld2; clear hHeld2; (try simp only [Act.put, List.setIfInBounds_toArray, List.set_cons_zero, List.set_cons_succ])
        obtain ⟨x37, hx37⟩ : ∃ z, z = x27.alloc (.cells #[.slice none 0 0, .slice none 0 0, .slice none 0 0] 35) := ⟨_, rfl⟩
        rw [← hx37] at hHeld ⊢
        have bx37 : Below x27.heap.size x27 x37 := by rw [hx37]; first | exact (Below.refl _ _).alloc (Nat.le_refl _) _ | go_grown
        have zx37 : x37.heap.size ≤ x27.heap.size + 1 := by rw [hx37]; simp [World.size_drew, World.size_alloc]
        have yx37 : x27.heap.size + 1 ≤ x37.heap.size := by rw [hx37]; simp [World.size_drew, World.size_alloc]
        have k3 : Bk x37 x27.heap.size 35 #[.slice none 0 0, .slice none 0 0, .slice none 0 0] := by rw [hx37]; first | exact Bk.new _ _ _ | exact Bk.new W0 _ _
        have wk3 : W0.heap.size ≤ x27.heap.size := vx37
        clear hx37
        have ke6 := ke6.next bx37
        refine wpAnyH_ready (rs := [0]) (by kernel_rfl) (by simp) ?_
        refine AllReadyH.cons rfl (fun K hK => ?_) (AllReadyH.nil)
        · rw [if_pos (by rfl)]
          go_simp
          have vx38 : W0.heap.size ≤ x37.heap.size := hHeld.2.1
          refine hK.out _ _ ?_ (fun hHeld2 => ?_)
          · (try dsimp only); exact SB.mk (by first | exact hHeld.2.2.alloc hHeld.2.1 _ | go_grown)
          clear hK K hHeld; have hHeld := hHeld2; clear hHeld2; (try simp only [Act.put, List.setIfInBounds_toArray, List.set_cons_zero, List.set_cons_succ])
          obtain ⟨x38, hx38⟩ : ∃ z, z = x37.alloc (.cells #[] 74) := ⟨_, rfl⟩
          rw [← hx38] at hHeld ⊢
          have bx38 : Below x37.heap.size x37 x38 := by rw [hx38]; first | exact (Below.refl _ _).alloc (Nat.le_refl _) _ | go_grown
          have zx38 : x38.heap.size ≤ x37.heap.size + 1 := by rw [hx38]; simp [World.size_drew, World.size_alloc]
          have yx38 : x37.heap.size + 1 ≤ x38.heap.size := by rw [hx38]; simp [World.size_drew, World.size_alloc]
          have ke0 : Bk x38 x37.heap.size 74 #[] := by rw [hx38]; first | exact Bk.new _ _ _ | exact Bk.new W0 _ _
          have wke0 : W0.heap.size ≤ x37.heap.size := vx38
          clear hx38
          have ke6 := ke6.next bx38
          have k3 := k3.next bx38
          refine wpAnyH_ready (rs := [5]) (by kernel_rfl) (by simp) ?_
          refine AllReadyH.cons rfl (fun K hK => ?_) (AllReadyH.nil)
          · refine step_pushes elem_ch (by rfl) (.tmp 7) (.tmp 11) 31 (by rfl) Try.underlying31 W0.heap.size (.slice (some ⟨x37.heap.size, 0, none⟩) 0 0) [] cs (by rfl) (Own.empty ke0 wke0) 0 n1 rfl N1.out h01 A1 c1 (by rfl) (RCH.out.below (Below.next hBW0 hHeld.2.2)) (by unfold maxLen; omega) (by omega) hHeld.2.1 ?_
            intro goa coa x39 hownx39 hgrx39 hatx39 hltx39
            have zx39 := hgrx39.size
            have hoa : goa = x37.heap.size ∨ goa = x38.heap.size := by
              rcases hatx39 with h | h
              · left; have h9 : x37.heap.size = goa := by simpa [Value.ownBlock] using h
                exact h9.symm
              · exact .inr h
            refine hK.out _ _ ?_ (fun hHeld2 => ?_)
            · (try dsimp only); exact SB.mk (hHeld.2.2.grown hgrx39 hHeld.2.1 (fun b hb => by have h9 : x37.heap.size = b := (by simpa [Value.ownBlock] using hb); omega))
            clear hK K hHeld; have hHeld := hHeld2; clear hHeld2; (try simp only [Act.put, List.setIfInBounds_toArray, List.set_cons_zero, List.set_cons_succ])
            (try simp only [Nat.zero_add])
            have oa : Own chC 74 4 x39 W0.heap.size (.slice (some ⟨goa, 0, none⟩) n1 coa) cs := by
              have h9 := hownx39
              simp only [List.nil_append, Nat.zero_add] at h9
              exact h9
            have ke6 := (show Bk _ _ _ _ from (hgrx39.block _ ke6.lt (fun e => by have h9 := e.symm; simp [Value.ownBlock] at h9; omega)).trans ke6)
            have k3 := (show Bk _ _ _ _ from (hgrx39.block _ k3.lt (fun e => by have h9 := e.symm; simp [Value.ownBlock] at h9; omega)).trans k3)
            refine wpAnyH_ready (rs := [11]) (by kernel_rfl) (by simp) ?_
            refine AllReadyH.cons rfl (fun K hK => ?_) (AllReadyH.nil)
            · refine step_push0 (by rfl) (.tmp 13) (.tmp 17) 33 39 iN (by rfl) Try.underlying33 hiN (W0.heap.size) A3 c3 (by rfl) (by rfl) ?_
              refine hK.out _ _ ?_ (fun hHeld2 => ?_)
              · (try dsimp only); exact hHeld
              clear hK K hHeld; have hHeld := hHeld2; clear hHeld2; (try simp only [Act.put, List.setIfInBounds_toArray, List.set_cons_zero, List.set_cons_succ])
              have ob : Own noC 39 3 x39 W0.heap.size (.slice (some ⟨W0.heap.size, 0, none⟩) 0 0) [] := Own.empty ke6 wke6
              obtain ⟨gob, hgob⟩ : ∃ g, g = W0.heap.size := ⟨_, rfl⟩
              have cob := 0
              have hob : gob = W0.heap.size ∨ gob = x39.heap.size := .inl hgob
              have ke6 := ke6
              have k3 := k3
              have oa := oa
              first | (refine take_on (i := 12) (v := ?_) rfl (by kernel_rfl) (by kernel_rfl) (by kernel_rfl) (fun _ _ _ h => h) rfl ?_ (by assumption) ?_; rotate_left; · (intro w' hSw; (try dsimp only at hSw); go_simp; (try with_reducible rfl))) | (refine take_off (i := 12) rfl (by kernel_rfl) (by kernel_rfl) (by kernel_rfl) (fun _ _ _ h => h) rfl (by assumption) ?_)
              (try simp only [Act.put, List.setIfInBounds_toArray, List.set_cons_zero, List.set_cons_succ])
              have e0 := k3.cell 0
              have e1 := k3.cell 1
              have e2 := k3.cell 2
              have f0 := k3.frozen 0
              have f1 := k3.frozen 1
              have f2 := k3.frozen 2
              have lt3 := k3.lt
              refine wpAnyH_ready (rs := [14]) (by kernel_rfl) (by simp) ?_
              refine AllReadyH.cons rfl (fun K hK => ?_) AllReadyH.nil
              rw [if_pos (by rfl)]
              go_simp
              refine hK.out _ _ ?_ (fun hHeld2 => ?_)
              · (try dsimp only); exact SB.mk (((hHeld.2.2.setCell wk3 _).setCell wk3 _).setCell wk3 _)
              clear hK K hHeld; have hHeld := hHeld2; clear hHeld2; (try simp only [Act.put, List.setIfInBounds_toArray, List.set_cons_zero, List.set_cons_succ])
              refine wpAnyH_done (by kernel_rfl) ?_ _
              have hF := hHeld.2.2
              clear hHeld
              go_wp2_with fail
              go_meet
              refine ⟨x27.heap.size, some ⟨goa, 0, none⟩, some ⟨(W0.heap.size), 0, none⟩, coa, 0, rfl, ?_, ?_, ?_, ?_, ?_, ?_, wk3, hF⟩
              · have h1 := ((k3.put 0 (.slice (some ⟨goa, 0, none⟩) n1 coa)).put 1 (.slice none 0 0)).put 2 (.slice (some ⟨(W0.heap.size), 0, none⟩) 0 0)
                simpa using h1
              · exact ((oa.setCell _ _ (fun k hk => by have h9 : goa = k := (by simpa [Value.ownBlock] using hk); simp only [ne_eq]; rcases hoa with h5 | h5 <;> omega)).setCell _ _ (fun k hk => by have h9 : goa = k := (by simpa [Value.ownBlock] using hk); simp only [ne_eq]; rcases hoa with h5 | h5 <;> omega)).setCell _ _ (fun k hk => by have h9 : goa = k := (by simpa [Value.ownBlock] using hk); simp only [ne_eq]; rcases hoa with h5 | h5 <;> omega)
              · exact ((ob.setCell _ _ (fun k hk => by have h9 : (W0.heap.size) = k := (by simpa [Value.ownBlock] using hk); simp only [ne_eq]; omega)).setCell _ _ (fun k hk => by have h9 : (W0.heap.size) = k := (by simpa [Value.ownBlock] using hk); simp only [ne_eq]; omega)).setCell _ _ (fun k hk => by have h9 : (W0.heap.size) = k := (by simpa [Value.ownBlock] using hk); simp only [ne_eq]; omega)
              · intro b h1 h2
                have h3 : goa = b := by simpa [Value.ownBlock] using h1
                have h4 : (W0.heap.size) = b := by simpa [Value.ownBlock] using h2
                rcases hoa with h5 | h5 <;> omega
              · intro e
                have h3 : goa = x27.heap.size := by simpa [Value.ownBlock] using e
                rcases hoa with h5 | h5 <;> omega
              · intro e
                have h3 : (W0.heap.size) = x27.heap.size := by simpa [Value.ownBlock] using e
                omega
    · rw [if_pos (by rfl)]
      go_simp
      have vx41 : W0.heap.size ≤ W0.drew.heap.size := hHeld.2.1
      refine hK.out _ _ ?_ (fun hHeld2 => ?_)
      · (try dsimp only); exact SB.mk (by first | exact hHeld.2.2.alloc hHeld.2.1 _ | go_grown)
      clear hK K hHeld; have hHeld := hHeld2; clear hHeld2; (try simp only [Act.put, List.setIfInBounds_toArray, List.set_cons_zero, List.set_cons_succ])
      obtain ⟨x41, hx41⟩ : ∃ z, z = (W0.alloc (.cells #[.slice none 0 0, .slice none 0 0, .slice none 0 0] 35)).drew := ⟨_, rfl⟩
      rw [← hx41] at hHeld ⊢
      have bx41 : Below W0.drew.heap.size W0.drew x41 := by rw [hx41]; first | exact (Below.refl _ _).alloc (Nat.le_refl _) _ | go_grown
      have zx41 : x41.heap.size ≤ W0.heap.size + 1 := by rw [hx41]; simp [World.size_drew, World.size_alloc]
      have yx41 : W0.heap.size + 1 ≤ x41.heap.size := by rw [hx41]; simp [World.size_drew, World.size_alloc]
      have k3 : Bk x41 W0.heap.size 35 #[.slice none 0 0, .slice none 0 0, .slice none 0 0] := by rw [hx41]; first | exact Bk.new _ _ _ | exact Bk.new W0 _ _
      have wk3 : W0.heap.size ≤ W0.heap.size := vx41
      clear hx41
      refine wpAnyH_ready (rs := [0, 6]) (by kernel_rfl) (by simp) ?_
      refine AllReadyH.cons rfl (fun K hK => ?_) (AllReadyH.cons rfl (fun K hK => ?_) (AllReadyH.nil))
      · rw [if_pos (by rfl)]
        go_simp
        have vx42 : W0.heap.size ≤ x41.heap.size := hHeld.2.1
        refine hK.out _ _ ?_ (fun hHeld2 => ?_)
        · (try dsimp only); exact SB.mk (by first | exact hHeld.2.2.alloc hHeld.2.1 _ | go_grown)
        clear hK K hHeld; have hHeld := hHeld2; clear hHeld2; (try simp only [Act.put, List.setIfInBounds_toArray, List.set_cons_zero, List.set_cons_succ])
        obtain ⟨x42, hx42⟩ : ∃ z, z = x41.alloc (.cells #[] 74) := ⟨_, rfl⟩
        rw [← hx42] at hHeld ⊢
        have bx42 : Below x41.heap.size x41 x42 := by rw [hx42]; first | exact (Below.refl _ _).alloc (Nat.le_refl _) _ | go_grown
        have zx42 : x42.heap.size ≤ x41.heap.size + 1 := by rw [hx42]; simp [World.size_drew, World.size_alloc]
        have yx42 : x41.heap.size + 1 ≤ x42.heap.size := by rw [hx42]; simp [World.size_drew, World.size_alloc]
        have ke0 : Bk x42 x41.heap.size 74 #[] := by rw [hx42]; first | exact Bk.new _ _ _ | exact Bk.new W0 _ _
        have wke0 : W0.heap.size ≤ x41.heap.size := vx42
        clear hx42
        have k3 := k3.next bx42
        refine wpAnyH_ready (rs := [5, 6]) (by kernel_rfl) (by simp) ?_
        refine AllReadyH.cons rfl (fun K hK => ?_) (AllReadyH.cons rfl (fun K hK => ?_) (AllReadyH.nil))
        · refine step_pushes elem_ch (by rfl) (.tmp 7) (.tmp 11) 31 (by rfl) Try.underlying31 W0.heap.size (.slice (some ⟨x41.heap.size, 0, none⟩) 0 0) [] cs (by rfl) (Own.empty ke0 wke0) 0 n1 rfl N1.out h01 A1 c1 (by rfl) (RCH.out.below (Below.next hBW0 hHeld.2.2)) (by unfold maxLen; omega) (by omega) hHeld.2.1 ?_
          intro goa coa x43 hownx43 hgrx43 hatx43 hltx43
          have zx43 := hgrx43.size
          have hoa : goa = x41.heap.size ∨ goa = x42.heap.size := by
            rcases hatx43 with h | h
            · left; have h9 : x41.heap.size = goa := by simpa [Value.ownBlock] using h
              exact h9.symm
            · exact .inr h
          refine hK.out _ _ ?_ (fun hHeld2 => ?_)
          · (try dsimp only); exact SB.mk (hHeld.2.2.grown hgrx43 hHeld.2.1 (fun b hb => by have h9 : x41.heap.size = b := (by simpa [Value.ownBlock] using hb); omega))
          clear hK K hHeld; have hHeld := hHeld2; clear hHeld2; (try simp only [Act.put, List.setIfInBounds_toArray, List.set_cons_zero, List.set_cons_succ])
          (try simp only [Nat.zero_add])
          have oa : Own chC 74 4 x43 W0.heap.size (.slice (some ⟨goa, 0, none⟩) n1 coa) cs := by
            have h9 := hownx43
            simp only [List.nil_append, Nat.zero_add] at h9
            exact h9
          have k3 := (show Bk _ _ _ _ from (hgrx43.block _ k3.lt (fun e => by have h9 := e.symm; simp [Value.ownBlock] at h9; omega)).trans k3)
          refine wpAnyH_ready (rs := [6]) (by kernel_rfl) (by simp) ?_
          refine AllReadyH.cons rfl (fun K hK => ?_) (AllReadyH.nil)
          · rw [if_pos (by rfl)]
            go_simp
            have vx44 : W0.heap.size ≤ x43.heap.size := hHeld.2.1
            refine hK.out _ _ ?_ (fun hHeld2 => ?_)
            · (try dsimp only); exact SB.mk (by first | exact hHeld.2.2.alloc hHeld.2.1 _ | go_grown)
            clear hK K hHeld; have hHeld := hHeld2; clear hHeld2; (try simp only [Act.put, List.setIfInBounds_toArray, List.set_cons_zero, List.set_cons_succ])
            obtain ⟨x44, hx44⟩ : ∃ z, z = x43.alloc (.cells #[] 39) := ⟨_, rfl⟩
            rw [← hx44] at hHeld ⊢
            have bx44 : Below x43.heap.size x43 x44 := by rw [hx44]; first | exact (Below.refl _ _).alloc (Nat.le_refl _) _ | go_grown
            have zx44 : x44.heap.size ≤ x43.heap.size + 1 := by rw [hx44]; simp [World.size_drew, World.size_alloc]
            have yx44 : x43.heap.size + 1 ≤ x44.heap.size := by rw [hx44]; simp [World.size_drew, World.size_alloc]
            have ke6 : Bk x44 x43.heap.size 39 #[] := by rw [hx44]; first | exact Bk.new _ _ _ | exact Bk.new W0 _ _
            have wke6 : W0.heap.size ≤ x43.heap.size := vx44
            clear hx44
            have k3 := k3.next bx44
            have oa := oa.next bx44
            refine wpAnyH_ready (rs := [11]) (by kernel_rfl) (by simp) ?_
            refine AllReadyH.cons rfl (fun K hK => ?_) (AllReadyH.nil)
            · refine step_push0 (by rfl) (.tmp 13) (.tmp 17) 33 39 iN (by rfl) Try.underlying33 hiN (x43.heap.size) A3 c3 (by rfl) (by rfl) ?_
              refine hK.out _ _ ?_ (fun hHeld2 => ?_)
              · (try dsimp only); exact hHeld
              clear hK K hHeld; have hHeld := hHeld2; clear hHeld2; (try simp only [Act.put, List.setIfInBounds_toArray, List.set_cons_zero, List.set_cons_succ])
              have ob : Own noC 39 3 x44 W0.heap.size (.slice (some ⟨x43.heap.size, 0, none⟩) 0 0) [] := Own.empty ke6 wke6
              obtain ⟨gob, hgob⟩ : ∃ g, g = x43.heap.size := ⟨_, rfl⟩
              have cob := 0
              have hob : gob = x43.heap.size ∨ gob = x44.heap.size := .inl hgob
              have k3 := k3
              have oa := oa
              have ke6 := ke6
              first | (refine take_on (i := 12) (v := ?_) rfl (by kernel_rfl) (by kernel_rfl) (by kernel_rfl) (fun _ _ _ h => h) rfl ?_ (by assumption) ?_; rotate_left; · (intro w' hSw; (try dsimp only at hSw); go_simp; (try with_reducible rfl))) | (refine take_off (i := 12) rfl (by kernel_rfl) (by kernel_rfl) (by kernel_rfl) (fun _ _ _ h => h) rfl (by assumption) ?_)
              (try simp only [Act.put, List.setIfInBounds_toArray, List.set_cons_zero, List.set_cons_succ])
              have e0 := k3.cell 0
              have e1 := k3.cell 1
              have e2 := k3.cell 2
              have f0 := k3.frozen 0
              have f1 := k3.frozen 1
              have f2 := k3.frozen 2
              have lt3 := k3.lt
              refine wpAnyH_ready (rs := [14]) (by kernel_rfl) (by simp) ?_
              refine AllReadyH.cons rfl (fun K hK => ?_) AllReadyH.nil
              rw [if_pos (by rfl)]
              go_simp
              refine hK.out _ _ ?_ (fun hHeld2 => ?_)
              · (try dsimp only); exact SB.mk (((hHeld.2.2.setCell wk3 _).setCell wk3 _).setCell wk3 _)
              clear hK K hHeld; have hHeld := hHeld2; clear hHeld2; (try simp only [Act.put, List.setIfInBounds_toArray, List.set_cons_zero, List.set_cons_succ])
              refine wpAnyH_done (by kernel_rfl) ?_ _
              have hF := hHeld.2.2
              clear hHeld
              go_wp2_with fail
              go_meet
              refine ⟨W0.heap.size, some ⟨goa, 0, none⟩, some ⟨(x43.heap.size), 0, none⟩, coa, 0, rfl, ?_, ?_, ?_, ?_, ?_, ?_, wk3, hF⟩
              · have h1 := ((k3.put 0 (.slice (some ⟨goa, 0, none⟩) n1 coa)).put 1 (.slice none 0 0)).put 2 (.slice (some ⟨(x43.heap.size), 0, none⟩) 0 0)
                simpa using h1
              · exact ((oa.setCell _ _ (fun k hk => by have h9 : goa = k := (by simpa [Value.ownBlock] using hk); simp only [ne_eq]; rcases hoa with h5 | h5 <;> omega)).setCell _ _ (fun k hk => by have h9 : goa = k := (by simpa [Value.ownBlock] using hk); simp only [ne_eq]; rcases hoa with h5 | h5 <;> omega)).setCell _ _ (fun k hk => by have h9 : goa = k := (by simpa [Value.ownBlock] using hk); simp only [ne_eq]; rcases hoa with h5 | h5 <;> omega)
              · exact ((ob.setCell _ _ (fun k hk => by have h9 : (x43.heap.size) = k := (by simpa [Value.ownBlock] using hk); simp only [ne_eq]; omega)).setCell _ _ (fun k hk => by have h9 : (x43.heap.size) = k := (by simpa [Value.ownBlock] using hk); simp only [ne_eq]; omega)).setCell _ _ (fun k hk => by have h9 : (x43.heap.size) = k := (by simpa [Value.ownBlock] using hk); simp only [ne_eq]; omega)
              · intro b h1 h2
                have h3 : goa = b := by simpa [Value.ownBlock] using h1
                have h4 : (x43.heap.size) = b := by simpa [Value.ownBlock] using h2
                rcases hoa with h5 | h5 <;> omega
              · intro e
                have h3 : goa = W0.heap.size := by simpa [Value.ownBlock] using e
                rcases hoa with h5 | h5 <;> omega
              · intro e
                have h3 : (x43.heap.size) = W0.heap.size := by simpa [Value.ownBlock] using e
                omega
        · rw [if_pos (by rfl)]
          go_simp
          have vx46 : W0.heap.size ≤ x42.heap.size := hHeld.2.1
          refine hK.out _ _ ?_ (fun hHeld2 => ?_)
          · (try dsimp only); exact SB.mk (by first | exact hHeld.2.2.alloc hHeld.2.1 _ | go_grown)
          clear hK K hHeld; have hHeld := hHeld2; clear hHeld2; (try simp only [Act.put, List.setIfInBounds_toArray, List.set_cons_zero, List.set_cons_succ])
          obtain ⟨x46, hx46⟩ : ∃ z, z = x42.alloc (.cells #[] 39) := ⟨_, rfl⟩
          rw [← hx46] at hHeld ⊢
          have bx46 : Below x42.heap.size x42 x46 := by rw [hx46]; first | exact (Below.refl _ _).alloc (Nat.le_refl _) _ | go_grown
          have zx46 : x46.heap.size ≤ x42.heap.size + 1 := by rw [hx46]; simp [World.size_drew, World.size_alloc]
          have yx46 : x42.heap.size + 1 ≤ x46.heap.size := by rw [hx46]; simp [World.size_drew, World.size_alloc]
          have ke6 : Bk x46 x42.heap.size 39 #[] := by rw [hx46]; first | exact Bk.new _ _ _ | exact Bk.new W0 _ _
          have wke6 : W0.heap.size ≤ x42.heap.size := vx46
          clear hx46
          have k3 := k3.next bx46
          have ke0 := ke0.next bx46
          refine wpAnyH_ready (rs := [5]) (by kernel_rfl) (by simp) ?_
          refine AllReadyH.cons rfl (fun K hK => ?_) (AllReadyH.nil)
          · refine step_pushes elem_ch (by rfl) (.tmp 7) (.tmp 11) 31 (by rfl) Try.underlying31 W0.heap.size (.slice (some ⟨x41.heap.size, 0, none⟩) 0 0) [] cs (by rfl) (Own.empty ke0 wke0) 0 n1 rfl N1.out h01 A1 c1 (by rfl) (RCH.out.below (Below.next hBW0 hHeld.2.2)) (by unfold maxLen; omega) (by omega) hHeld.2.1 ?_
            intro goa coa x47 hownx47 hgrx47 hatx47 hltx47
            have zx47 := hgrx47.size
            have hoa : goa = x41.heap.size ∨ goa = x46.heap.size := by
              rcases hatx47 with h | h
              · left; have h9 : x41.heap.size = goa := by simpa [Value.ownBlock] using h
                exact h9.symm
              · exact .inr h
            refine hK.out _ _ ?_ (fun hHeld2 => ?_)
            · (try dsimp only); exact SB.mk (hHeld.2.2.grown hgrx47 hHeld.2.1 (fun b hb => by have h9 : x41.heap.size = b := (by simpa [Value.ownBlock] using hb); omega))
            clear hK K hHeld; have hHeld := hHeld2; clear hHeld2; (try simp only [Act.put, List.setIfInBounds_toArray, List.set_cons_zero, List.set_cons_succ])
            (try simp only [Nat.zero_add])
            have oa : Own chC 74 4 x47 W0.heap.size (.slice (some ⟨goa, 0, none⟩) n1 coa) cs := by
              have h9 := hownx47
              simp only [List.nil_append, Nat.zero_add] at h9
              exact h9
            have k3 := (show Bk _ _ _ _ from (hgrx47.block _ k3.lt (fun e => by have h9 := e.symm; simp [Value.ownBlock] at h9; omega)).trans k3)
            have ke6 := (show Bk _ _ _ _ from (hgrx47.block _ ke6.lt (fun e => by have h9 := e.symm; simp [Value.ownBlock] at h9; omega)).trans ke6)
            refine wpAnyH_ready (rs := [11]) (by kernel_rfl) (by simp) ?_
            refine AllReadyH.cons rfl (fun K hK => ?_) (AllReadyH.nil)
            · refine step_push0 (by rfl) (.tmp 13) (.tmp 17) 33 39 iN (by rfl) Try.underlying33 hiN (x42.heap.size) A3 c3 (by rfl) (by rfl) ?_
              refine hK.out _ _ ?_ (fun hHeld2 => ?_)
              · (try dsimp only); exact hHeld
              clear hK K hHeld; have hHeld := hHeld2; clear hHeld2; (try simp only [Act.put, List.setIfInBounds_toArray, List.set_cons_zero, List.set_cons_succ])
              have ob : Own noC 39 3 x47 W0.heap.size (.slice (some ⟨x42.heap.size, 0, none⟩) 0 0) [] := Own.empty ke6 wke6
              obtain ⟨gob, hgob⟩ : ∃ g, g = x42.heap.size := ⟨_, rfl⟩
              have cob := 0
              have hob : gob = x42.heap.size ∨ gob = x47.heap.size := .inl hgob
              have k3 := k3
              have ke6 := ke6
              have oa := oa
              first | (refine take_on (i := 12) (v := ?_) rfl (by kernel_rfl) (by kernel_rfl) (by kernel_rfl) (fun _ _ _ h => h) rfl ?_ (by assumption) ?_; rotate_left; · (intro w' hSw; (try dsimp only at hSw); go_simp; (try with_reducible rfl))) | (refine take_off (i := 12) rfl (by kernel_rfl) (by kernel_rfl) (by kernel_rfl) (fun _ _ _ h => h) rfl (by assumption) ?_)
              (try simp only [Act.put, List.setIfInBounds_toArray, List.set_cons_zero, List.set_cons_succ])
              have e0 := k3.cell 0
              have e1 := k3.cell 1
              have e2 := k3.cell 2
              have f0 := k3.frozen 0
              have f1 := k3.frozen 1
              have f2 := k3.frozen 2
              have lt3 := k3.lt
              refine wpAnyH_ready (rs := [14]) (by kernel_rfl) (by simp) ?_
              refine AllReadyH.cons rfl (fun K hK => ?_) AllReadyH.nil
              rw [if_pos (by rfl)]
              go_simp
              refine hK.out _ _ ?_ (fun hHeld2 => ?_)
              · (try dsimp only); exact SB.mk (((hHeld.2.2.setCell wk3 _).setCell wk3 _).setCell wk3 _)
              clear hK K hHeld; have hHeld := hHeld2; clear hHeld2; (try simp only [Act.put, List.setIfInBounds_toArray, List.set_cons_zero, List.set_cons_succ])
              refine wpAnyH_done (by kernel_rfl) ?_ _
              have hF := hHeld.2.2
              clear hHeld
              go_wp2_with fail
              go_meet
              refine ⟨W0.heap.size, some ⟨goa, 0, none⟩, some ⟨(x42.heap.size), 0, none⟩, coa, 0, rfl, ?_, ?_, ?_, ?_, ?_, ?_, wk3, hF⟩
              · have h1 := ((k3.put 0 (.slice (some ⟨goa, 0, none⟩) n1 coa)).put 1 (.slice none 0 0)).put 2 (.slice (some ⟨(x42.heap.size), 0, none⟩) 0 0)
                simpa using h1
              · exact ((oa.setCell _ _ (fun k hk => by have h9 : goa = k := (by simpa [Value.ownBlock] using hk); simp only [ne_eq]; rcases hoa with h5 | h5 <;> omega)).setCell _ _ (fun k hk => by have h9 : goa = k := (by simpa [Value.ownBlock] using hk); simp only [ne_eq]; rcases hoa with h5 | h5 <;> omega)).setCell _ _ (fun k hk => by have h9 : goa = k := (by simpa [Value.ownBlock] using hk); simp only [ne_eq]; rcases hoa with h5 | h5 <;> omega)
              · exact ((ob.setCell _ _ (fun k hk => by have h9 : (x42.heap.size) = k := (by simpa [Value.ownBlock] using hk); simp only [ne_eq]; omega)).setCell _ _ (fun k hk => by have h9 : (x42.heap.size) = k := (by simpa [Value.ownBlock] using hk); simp only [ne_eq]; omega)).setCell _ _ (fun k hk => by have h9 : (x42.heap.size) = k := (by simpa [Value.ownBlock] using hk); simp only [ne_eq]; omega)
              · intro b h1 h2
                have h3 : goa = b := by simpa [Value.ownBlock] using h1
                have h4 : (x42.heap.size) = b := by simpa [Value.ownBlock] using h2
                rcases hoa with h5 | h5 <;> omega
              · intro e
                have h3 : goa = W0.heap.size := by simpa [Value.ownBlock] using e
                rcases hoa with h5 | h5 <;> omega
              · intro e
                have h3 : (x42.heap.size) = W0.heap.size := by simpa [Value.ownBlock] using e
                omega
      · rw [if_pos (by rfl)]
        go_simp
        have vx49 : W0.heap.size ≤ x41.heap.size := hHeld.2.1
        refine hK.out _ _ ?_ (fun hHeld2 => ?_)
        · (try dsimp only); exact SB.mk (by first | exact hHeld.2.2.alloc hHeld.2.1 _ | go_grown)
        clear hK K hHeld; have hHeld := hHeld2; clear hHeld2; (try simp only [Act.put, List.setIfInBounds_toArray, List.set_cons_zero, List.set_cons_succ])
        obtain ⟨x49, hx49⟩ : ∃ z, z = x41.alloc (.cells #[] 39) := ⟨_, rfl⟩
        rw [← hx49] at hHeld ⊢
        have bx49 : Below x41.heap.size x41 x49 := by rw [hx49]; first | exact (Below.refl _ _).alloc (Nat.le_refl _) _ | go_grown
        have zx49 : x49.heap.size ≤ x41.heap.size + 1 := by rw [hx49]; simp [World.size_drew, World.size_alloc]
        have yx49 : x41.heap.size + 1 ≤ x49.heap.size := by rw [hx49]; simp [World.size_drew, World.size_alloc]
        have ke6 : Bk x49 x41.heap.size 39 #[] := by rw [hx49]; first | exact Bk.new _ _ _ | exact Bk.new W0 _ _
        have wke6 : W0.heap.size ≤ x41.heap.size := vx49
        clear hx49
        have k3 := k3.next bx49
        refine wpAnyH_ready (rs := [0]) (by kernel_rfl) (by simp) ?_
        refine AllReadyH.cons rfl (fun K hK => ?_) (AllReadyH.nil)
        · rw [if_pos (by rfl)]
          go_simp
          have vx50 : W0.heap.size ≤ x49.heap.size := hHeld.2.1
          refine hK.out _ _ ?_ (fun hHeld2 => ?_)
          · (try dsimp only); exact SB.mk (by first | exact hHeld.2.2.alloc hHeld.2.1 _ | go_grown)
          clear hK K hHeld; have hHeld := hHeld2; clear hHeld2; (try simp only [Act.put, List.setIfInBounds_toArray, List.set_cons_zero, List.set_cons_succ])
          obtain ⟨x50, hx50⟩ : ∃ z, z = x49.alloc (.cells #[] 74) := ⟨_, rfl⟩
          rw [← hx50] at hHeld ⊢
          have bx50 : Below x49.heap.size x49 x50 := by rw [hx50]; first | exact (Below.refl _ _).alloc (Nat.le_refl _) _ | go_grown
          have zx50 : x50.heap.size ≤ x49.heap.size + 1 := by rw [hx50]; simp [World.size_drew, World.size_alloc]
          have yx50 : x49.heap.size + 1 ≤ x50.heap.size := by rw [hx50]; simp [World.size_drew, World.size_alloc]
          have ke0 : Bk x50 x49.heap.size 74 #[] := by rw [hx50]; first | exact Bk.new _ _ _ | exact Bk.new W0 _ _
          have wke0 : W0.heap.size ≤ x49.heap.size := vx50
          clear hx50
          have k3 := k3.next bx50
          have ke6 := ke6.next bx50
          refine wpAnyH_ready (rs := [5]) (by kernel_rfl) (by simp) ?_
          refine AllReadyH.cons rfl (fun K hK => ?_) (AllReadyH.nil)
          · refine step_pushes elem_ch (by rfl) (.tmp 7) (.tmp 11) 31 (by rfl) Try.underlying31 W0.heap.size (.slice (some ⟨x49.heap.size, 0, none⟩) 0 0) [] cs (by rfl) (Own.empty ke0 wke0) 0 n1 rfl N1.out h01 A1 c1 (by rfl) (RCH.out.below (Below.next hBW0 hHeld.2.2)) (by unfold maxLen; omega) (by omega) hHeld.2.1 ?_
            intro goa coa x51 hownx51 hgrx51 hatx51 hltx51
            have zx51 := hgrx51.size
            have hoa : goa = x49.heap.size ∨ goa = x50.heap.size := by
              rcases hatx51 with h | h
              · left; have h9 : x49.heap.size = goa := by simpa [Value.ownBlock] using h
                exact h9.symm
              · exact .inr h
            refine hK.out _ _ ?_ (fun hHeld2 => ?_)
            · (try dsimp only); exact SB.mk (hHeld.2.2.grown hgrx51 hHeld.2.1 (fun b hb => by have h9 : x49.heap.size = b := (by simpa [Value.ownBlock] using hb); omega))
            clear hK K hHeld; have hHeld := hHeld2; clear hHeld2; (try simp only [Act.put, List.setIfInBounds_toArray, List.set_cons_zero, List.set_cons_succ])
            (try simp only [Nat.zero_add])
            have oa : Own chC 74 4 x51 W0.heap.size (.slice (some ⟨goa, 0, none⟩) n1 coa) cs := by
              have h9 := hownx51
              simp only [List.nil_append, Nat.zero_add] at h9
              exact h9
            have k3 := (show Bk _ _ _ _ from (hgrx51.block _ k3.lt (fun e => by have h9 := e.symm; simp [Value.ownBlock] at h9; omega)).trans k3)
            have ke6 := (show Bk _ _ _ _ from (hgrx51.block _ ke6.lt (fun e => by have h9 := e.symm; simp [Value.ownBlock] at h9; omega)).trans ke6)
            refine wpAnyH_ready (rs := [11]) (by kernel_rfl) (by simp) ?_
            refine AllReadyH.cons rfl (fun K hK => ?_) (AllReadyH.nil)
            · refine step_push0 (by rfl) (.tmp 13) (.tmp 17) 33 39 iN (by rfl) Try.underlying33 hiN (x41.heap.size) A3 c3 (by rfl) (by rfl) ?_
              refine hK.out _ _ ?_ (fun hHeld2 => ?_)
              · (try dsimp only); exact hHeld
              clear hK K hHeld; have hHeld := hHeld2; clear hHeld2; (try simp only [Act.put, List.setIfInBounds_toArray, List.set_cons_zero, List.set_cons_succ])
              have ob : Own noC 39 3 x51 W0.heap.size (.slice (some ⟨x41.heap.size, 0, none⟩) 0 0) [] := Own.empty ke6 wke6
              obtain ⟨gob, hgob⟩ : ∃ g, g = x41.heap.size := ⟨_, rfl⟩
              have cob := 0
              have hob : gob = x41.heap.size ∨ gob = x51.heap.size := .inl hgob
              have k3 := k3
              have ke6 := ke6
              have oa := oa
              first | (refine take_on (i := 12) (v := ?_) rfl (by kernel_rfl) (by kernel_rfl) (by kernel_rfl) (fun _ _ _ h => h) rfl ?_ (by assumption) ?_; rotate_left; · (intro w' hSw; (try dsimp only at hSw); go_simp; (try with_reducible rfl))) | (refine take_off (i := 12) rfl (by kernel_rfl) (by kernel_rfl) (by kernel_rfl) (fun _ _ _ h => h) rfl (by assumption) ?_)
              (try simp only [Act.put, List.setIfInBounds_toArray, List.set_cons_zero, List.set_cons_succ])
              have e0 := k3.cell 0
              have e1 := k3.cell 1
              have e2 := k3.cell 2
              have f0 := k3.frozen 0
              have f1 := k3.frozen 1
              have f2 := k3.frozen 2
              have lt3 := k3.lt
              refine wpAnyH_ready (rs := [14]) (by kernel_rfl) (by simp) ?_
              refine AllReadyH.cons rfl (fun K hK => ?_) AllReadyH.nil
              rw [if_pos (by rfl)]
              go_simp
              refine hK.out _ _ ?_ (fun hHeld2 => ?_)
              · (try dsimp only); exact SB.mk (((hHeld.2.2.setCell wk3 _).setCell wk3 _).setCell wk3 _)
              clear hK K hHeld; have hHeld := hHeld2; clear hHeld2; (try simp only [Act.put, List.setIfInBounds_toArray, List.set_cons_zero, List.set_cons_succ])
              refine wpAnyH_done (by kernel_rfl) ?_ _
              have hF := hHeld.2.2
              clear hHeld
              go_wp2_with fail
              go_meet
              refine ⟨W0.heap.size, some ⟨goa, 0, none⟩, some ⟨(x41.heap.size), 0, none⟩, coa, 0, rfl, ?_, ?_, ?_, ?_, ?_, ?_, wk3, hF⟩
              · have h1 := ((k3.put 0 (.slice (some ⟨goa, 0, none⟩) n1 coa)).put 1 (.slice none 0 0)).put 2 (.slice (some ⟨(x41.heap.size), 0, none⟩) 0 0)
                simpa using h1
              · exact ((oa.setCell _ _ (fun k hk => by have h9 : goa = k := (by simpa [Value.ownBlock] using hk); simp only [ne_eq]; rcases hoa with h5 | h5 <;> omega)).setCell _ _ (fun k hk => by have h9 : goa = k := (by simpa [Value.ownBlock] using hk); simp only [ne_eq]; rcases hoa with h5 | h5 <;> omega)).setCell _ _ (fun k hk => by have h9 : goa = k := (by simpa [Value.ownBlock] using hk); simp only [ne_eq]; rcases hoa with h5 | h5 <;> omega)
              · exact ((ob.setCell _ _ (fun k hk => by have h9 : (x41.heap.size) = k := (by simpa [Value.ownBlock] using hk); simp only [ne_eq]; omega)).setCell _ _ (fun k hk => by have h9 : (x41.heap.size) = k := (by simpa [Value.ownBlock] using hk); simp only [ne_eq]; omega)).setCell _ _ (fun k hk => by have h9 : (x41.heap.size) = k := (by simpa [Value.ownBlock] using hk); simp only [ne_eq]; omega)
              · intro b h1 h2
                have h3 : goa = b := by simpa [Value.ownBlock] using h1
                have h4 : (x41.heap.size) = b := by simpa [Value.ownBlock] using h2
                rcases hoa with h5 | h5 <;> omega
              · intro e
                have h3 : goa = W0.heap.size := by simpa [Value.ownBlock] using e
                rcases hoa with h5 | h5 <;> omega
              · intro e
                have h3 : (x41.heap.size) = W0.heap.size := by simpa [Value.ownBlock] using e
                omega
  case rest =>
    obtain ⟨w2, rfl⟩ : ∃ x, x = wc := ⟨wc, rfl⟩
    obtain ⟨b3, Aa, Ab, ca, cb, rfl, hbk0, ho1, ho3, hd, hd1, hd3, hwb, hB2⟩ := hcut
    obtain ⟨hmine0, hfp0⟩ := file_own ho1 N1.out ho3 N3.out hd hd1 hd3
    have hT2 : Below w.heap.size w w2 := Below.next hBW0 hB2
    clear q0 q2 ho1 ho3 hd hd1 hd3
    go_wp2_with fail
    go_loopw [4] (fun i wr => ∃ (k : Nat) (S : Sl (Sl (Sl Int))), k ≤ n2 ∧ i = .int .i64 (k : Int) ∧ Bk wr b3 35 #[.slice Aa n1 ca, .slice S.A k S.c, .slice Ab 0 cb] ∧ Hid (S.l.length = k) ∧ Hid (S.l.map rowsK.pl = (ss.take k).map rowsK.pl) ∧ Hid (FileMine wr W0.heap.size wr.heap.size ⟨⟨Aa, ca, cs⟩, S, ⟨Ab, cb, []⟩⟩) ∧ Hid (∀ b ∈ fileFp ⟨⟨Aa, ca, cs⟩, S, ⟨Ab, cb, []⟩⟩, b ≠ b3) ∧ Below W0.heap.size w2 wr) (fun i _ => n2 - (intOf i).toNat)
    case atStart => exact ⟨0, ⟨none, 0, []⟩, Nat.zero_le _, rfl, hbk0, rfl, rfl, hmine0, hfp0, Below.refl _ _⟩
    case round =>
      obtain ⟨wo, rfl⟩ : ∃ x, x = wr := ⟨wr, rfl⟩
      obtain ⟨k, S, hk, rfl, hbk, hSl, hSp, hM, hF, hW⟩ := hrel
      have hWs := hW.size
      have hWw : Below w.heap.size w wo := hT2.trans (hW.mono hBW0.size)
      have e0 := hbk.cell 0
      have e1 := hbk.cell 1
      have e2 := hbk.cell 2
      have f1 := hbk.frozen 1
      have hgl := hbk.lt
      have x1 : wo.cell? ⟨bX, 1, none⟩ = some (.slice A2 n2 c2) := (hWw.cell (p := ⟨bX, 1, none⟩) hbX).trans X1.out
      have hbo : bX < wo.heap.size := Nat.lt_of_lt_of_le hbX hWw.size
      by_cases hlt : k < n2
      · have hWW := hWw
        have ka : k < ss.length := by rw [N2.out]; exact hlt
        obtain ⟨b1, o1, rfl, l1, d⟩ := (RST.out).at hdC_len N2.out ka
        have hrs := RSS.out _ (List.getElem_mem ka)
        obtain ⟨_, h60, hrows⟩ := stOk_at HOK.out HP.out ka
        obtain ⟨Ar, cr, l, hr⟩ : ∃ Ar cr l, ss[k] = ⟨Ar, cr, l⟩ := ⟨ss[k].A, ss[k].c, ss[k].l, rfl⟩
        have HSK : Hid (∀ R : Sl (Sl Int), rowsK.pl R = l.map rowK.pl → (S.l ++ [R]).map rowsK.pl = (ss.take (k + 1)).map rowsK.pl) := fun R hR => st_push3 ka hSp.out (by rw [hr]; exact hR)
        have h60' : ss[k].l.length ≤ 60 := h60
        have hrows2 : ∀ j (h : j < l.length), RowOk cs l[j].l := by
          have h9 : ∀ j (h : j < ss[k].l.length), RowOk cs ss[k].l[j].l := hrows
          rw [hr] at h9
          exact h9
        rw [hr] at hrs d h60'
        have h60'' : l.length ≤ 60 := h60'
        have dw : w.cell? ⟨b1, o1 + k, none⟩ = some (.slice Ar l.length cr) := by simpa [hdC, Sl.val] using d 0 _ rfl
        obtain ⟨q, hq⟩ : ∃ q, l.length = q := ⟨_, rfl⟩
        have rm : Rd w Ar l.length 1 (rowOf hdC l) := hrs.1
        have rm2 : ∀ a ∈ l, rowK.rd w a := hrs.2
        rw [hq] at rm dw h60''
        have RM := Lib.hid rm
        have RM2 := Lib.hid rm2
        have LQ := Lib.hid hq
        have HROW := Lib.hid hrows2
        have DW := Lib.hid dw
        have hk0 : (0 : Int) ≤ (k : Int) := by omega
        have hkn : (k : Int) < (n2 : Int) := by omega
        clear d hr hrs hrows hrows2 hq rm rm2 h60 h60'
        have l1o : b1 < wo.heap.size := Nat.lt_of_lt_of_le l1 hWw.size
        have hI0 : Hid (Bk (wo.alloc (.cells #[.slice none 0 0] 76)) wo.heap.size 76 #[.slice none 0 0]) := Bk.new wo _ _
        have hBi : Below wo.heap.size wo (wo.alloc (.cells #[.slice none 0 0] 76)) := (Below.refl _ _).alloc (Nat.le_refl _) _
        go_wp2_with fail
        go_loopw [6] (fun i wr => ∃ (j : Nat) (R : Sl (Sl Int)), j ≤ q ∧ i = .int .i64 (j : Int) ∧ Bk wr wo.heap.size 76 #[.slice R.A j R.c] ∧ Hid (R.l.length = j) ∧ Hid (rowsK.pl R = (l.take j).map rowK.pl) ∧ Hid (Mine rowsK wr (wo.heap.size + 1) wr.heap.size R) ∧ Below wo.heap.size (wo.alloc (.cells #[.slice none 0 0] 76)) wr) (fun i _ => q - (intOf i).toNat)
        case atStart => exact ⟨0, ⟨none, 0, []⟩, Nat.zero_le _, rfl, hI0.out, rfl, rfl, Mine.nil rowK 76 _ _ _, Below.refl _ _⟩
        case round =>
          obtain ⟨j, R, hj, rfl, hbk2, HRL, HRP, HMR, hB2i⟩ := hrel
          have hBs := hB2i.size
          simp only [World.size_alloc, World.size_setCell] at hBs
          have hB0 : Below wo.heap.size wo wr := hBi.trans hB2i
          have hWr : Below w.heap.size w wr := hWw.trans (hB0.mono hWw.size)
          obtain ⟨i0, j0⟩ := bk1 hbk2
          have hgl2 := hbk2.lt
          have x1h := (hWr.cell (p := ⟨bX, 1, none⟩) hbX).trans X1.out
          have d0h := (hWr.cell (p := ⟨b1, o1 + k, none⟩) l1).trans DW.out
          by_cases hjlt : j < q
          · have hWW2 := hWr
            clear x1h d0h
            have kj : j < l.length := by rw [LQ.out]; exact hjlt
            obtain ⟨b2, o2, rfl, l2, d2⟩ := (RM.out).at hdC_len LQ.out kj
            have hrr := RM2.out _ (List.getElem_mem kj)
            have hrow := (HROW.out j kj).1
            have HNXT : Hid (∀ (y : Sl Int) (A : Option Addr) (c : Nat), y.l = l[j].l → rowsK.pl ⟨A, c, R.l ++ [y]⟩ = (l.take (j + 1)).map rowK.pl) := fun y A c hy => rows_push3 kj HRP.out hy
            obtain ⟨A3', c3', r, hr⟩ : ∃ A3 c3 r, l[j] = ⟨A3, c3, r⟩ := ⟨l[j].A, l[j].c, l[j].l, rfl⟩
            rw [hr] at hrr hrow d2 HNXT
            have hrl : r.length = n1 := by rw [← N1.out]; exact hrow
            have d3w : w.cell? ⟨b2, o2 + j, none⟩ = some (.slice A3' r.length c3') := by simpa [hdC, Sl.val] using d2 0 _ rfl
            have hrd : Rd w A3' r.length 1 (rowOf iC r) := hrr.1
            rw [hrl] at d3w hrd
            have HRD := Lib.hid hrd
            have HRLN := Lib.hid hrl
            have d3 : wr.cell? ⟨b2, o2 + j, none⟩ = some (.slice A3' n1 c3') := (hWr.cell (p := ⟨b2, o2 + j, none⟩) l2).trans d3w
            have l2r : b2 < wr.heap.size := Nat.lt_of_lt_of_le l2 hWr.size
            obtain ⟨vr, hvr⟩ : ∃ v, Value.slice R.A j R.c = v := ⟨_, rfl⟩
            have HRVV : Hid (R.val = vr) := by rw [Hid, ← hvr, ← HRL.out]; rfl
            have HIR : Hid (∀ b, vr.ownBlock = some b → wo.heap.size + 1 ≤ b ∧ b < wr.heap.size) := fun b hb => HMR.out.rng b (Kd.fp_top (s := R) (by rw [HRVV.out]; exact hb))
            rw [hvr] at hbk2 i0
            have hj0 : (0 : Int) ≤ (j : Int) := by omega
            have hjn : (j : Int) < (q : Int) := by omega
            clear hr hrr hrow d2 hrl d3w hrd hvr
            have x1r := (hWr.cell (p := ⟨bX, 1, none⟩) hbX).trans X1.out
            have d0r := (hWr.cell (p := ⟨b1, o1 + k, none⟩) l1).trans DW.out
            have hux : ¬ vr.ownBlock = some bX := fun e => by have h9 := HIR.out _ e; omega
            have hu1 : ¬ vr.ownBlock = some b1 := fun e => by have h9 := HIR.out _ e; omega
            have hu2 : ¬ vr.ownBlock = some b2 := fun e => by have h9 := HIR.out _ e; have h8 := hWw.size; omega
            have hvx : ¬ bX = wo.heap.size := by omega
            have hv1 : ¬ b1 = wo.heap.size := by omega
            have hv2 : ¬ b2 = wo.heap.size := by have h8 := hWw.size; omega
            have lxr : bX < wr.heap.size := Nat.lt_of_lt_of_le hbX hWr.size
            have l1r : b1 < wr.heap.size := Nat.lt_of_lt_of_le l1 hWr.size
            go_wp2_with fail
            refine wp_region_held_drew (S := (fun w' => (∀ kb ko, kb < wr.heap.size → ¬ vr.ownBlock = some kb → ¬ kb = wo.heap.size → w'.cell? ⟨kb, ko, none⟩ = wr.cell? ⟨kb, ko, none⟩) ∧ wr.heap.size ≤ w'.heap.size ∧ Below (wo.heap.size) wr w')) (by kernel_rfl) ?_ (fun hHeld => ?_)
            · (try dsimp only); exact S2.mk ((Below.refl _ _).drew) (by omega)
            first | (refine take_on (i := 0) (v := ?_) rfl (by kernel_rfl) (by kernel_rfl) (by kernel_rfl) (fun _ _ _ h => h) rfl ?_ (by assumption) ?_; rotate_left; · (intro w' hSw; (try dsimp only at hSw); go_simp; (try with_reducible rfl))) | (refine take_off (i := 0) rfl (by kernel_rfl) (by kernel_rfl) (by kernel_rfl) (fun _ _ _ h => h) rfl (by assumption) ?_)
            (try simp only [Act.put, List.setIfInBounds_toArray, List.set_cons_zero, List.set_cons_succ])
            first | (refine take_on (i := 2) (v := ?_) rfl (by kernel_rfl) (by kernel_rfl) (by kernel_rfl) (fun _ _ _ h => h) rfl ?_ (by assumption) ?_; rotate_left; · (intro w' hSw; (try dsimp only at hSw); go_simp; (try with_reducible rfl))) | (refine take_off (i := 2) rfl (by kernel_rfl) (by kernel_rfl) (by kernel_rfl) (fun _ _ _ h => h) rfl (by assumption) ?_)
            (try simp only [Act.put, List.setIfInBounds_toArray, List.set_cons_zero, List.set_cons_succ])
            first | (refine take_on (i := 3) (v := ?_) rfl (by kernel_rfl) (by kernel_rfl) (by kernel_rfl) (fun _ _ _ h => h) rfl ?_ (by assumption) ?_; rotate_left; · (intro w' hSw; (try dsimp only at hSw); go_simp; (try with_reducible rfl))) | (refine take_off (i := 3) rfl (by kernel_rfl) (by kernel_rfl) (by kernel_rfl) (fun _ _ _ h => h) rfl (by assumption) ?_)
            (try simp only [Act.put, List.setIfInBounds_toArray, List.set_cons_zero, List.set_cons_succ])
            first | (refine take_on (i := 4) (v := ?_) rfl (by kernel_rfl) (by kernel_rfl) (by kernel_rfl) (fun _ _ _ h => h) rfl ?_ (by assumption) ?_; rotate_left; · (intro w' hSw; (try dsimp only at hSw); go_simp; (try with_reducible rfl))) | (refine take_off (i := 4) rfl (by kernel_rfl) (by kernel_rfl) (by kernel_rfl) (fun _ _ _ h => h) rfl (by assumption) ?_)
            (try simp only [Act.put, List.setIfInBounds_toArray, List.set_cons_zero, List.set_cons_succ])
            first | (refine take_on (i := 5) (v := ?_) rfl (by kernel_rfl) (by kernel_rfl) (by kernel_rfl) (fun _ _ _ h => h) rfl ?_ (by assumption) ?_; rotate_left; · (intro w' hSw; (try dsimp only at hSw); go_simp; (try with_reducible rfl))) | (refine take_off (i := 5) rfl (by kernel_rfl) (by kernel_rfl) (by kernel_rfl) (fun _ _ _ h => h) rfl (by assumption) ?_)
            (try simp only [Act.put, List.setIfInBounds_toArray, List.set_cons_zero, List.set_cons_succ])
            first | (refine take_on (i := 6) (v := ?_) rfl (by kernel_rfl) (by kernel_rfl) (by kernel_rfl) (fun _ _ _ h => h) rfl ?_ (by assumption) ?_; rotate_left; · (intro w' hSw; (try dsimp only at hSw); go_simp; (try with_reducible rfl))) | (refine take_off (i := 6) rfl (by kernel_rfl) (by kernel_rfl) (by kernel_rfl) (fun _ _ _ h => h) rfl (by assumption) ?_)
            (try simp only [Act.put, List.setIfInBounds_toArray, List.set_cons_zero, List.set_cons_succ])
            first | (refine take_on (i := 7) (v := ?_) rfl (by kernel_rfl) (by kernel_rfl) (by kernel_rfl) (fun _ _ _ h => h) rfl ?_ (by assumption) ?_; rotate_left; · (intro w' hSw; (try dsimp only at hSw); go_simp; (try with_reducible rfl))) | (refine take_off (i := 7) rfl (by kernel_rfl) (by kernel_rfl) (by kernel_rfl) (fun _ _ _ h => h) rfl (by assumption) ?_)
            (try simp only [Act.put, List.setIfInBounds_toArray, List.set_cons_zero, List.set_cons_succ])
            first | (refine take_on (i := 8) (v := ?_) rfl (by kernel_rfl) (by kernel_rfl) (by kernel_rfl) (fun _ _ _ h => h) rfl ?_ (by assumption) ?_; rotate_left; · (intro w' hSw; (try dsimp only at hSw); go_simp; (try with_reducible rfl))) | (refine take_off (i := 8) rfl (by kernel_rfl) (by kernel_rfl) (by kernel_rfl) (fun _ _ _ h => h) rfl (by assumption) ?_)
            (try simp only [Act.put, List.setIfInBounds_toArray, List.set_cons_zero, List.set_cons_succ])
            first | (refine take_on (i := 9) (v := ?_) rfl (by kernel_rfl) (by kernel_rfl) (by kernel_rfl) (fun _ _ _ h => h) rfl ?_ (by assumption) ?_; rotate_left; · (intro w' hSw; (try dsimp only at hSw); go_simp; (try with_reducible rfl))) | (refine take_off (i := 9) rfl (by kernel_rfl) (by kernel_rfl) (by kernel_rfl) (fun _ _ _ h => h) rfl (by assumption) ?_)
            (try simp only [Act.put, List.setIfInBounds_toArray, List.set_cons_zero, List.set_cons_succ])
            first | (refine take_on (i := 10) (v := ?_) rfl (by kernel_rfl) (by kernel_rfl) (by kernel_rfl) (fun _ _ _ h => h) rfl ?_ (by assumption) ?_; rotate_left; · (intro w' hSw; (try dsimp only at hSw); go_simp; (try with_reducible rfl))) | (refine take_off (i := 10) rfl (by kernel_rfl) (by kernel_rfl) (by kernel_rfl) (fun _ _ _ h => h) rfl (by assumption) ?_)
            (try simp only [Act.put, List.setIfInBounds_toArray, List.set_cons_zero, List.set_cons_succ])
            first | (refine take_on (i := 11) (v := ?_) rfl (by kernel_rfl) (by kernel_rfl) (by kernel_rfl) (fun _ _ _ h => h) rfl ?_ (by assumption) ?_; rotate_left; · (intro w' hSw; (try dsimp only at hSw); go_simp; (try with_reducible rfl))) | (refine take_off (i := 11) rfl (by kernel_rfl) (by kernel_rfl) (by kernel_rfl) (fun _ _ _ h => h) rfl (by assumption) ?_)
            (try simp only [Act.put, List.setIfInBounds_toArray, List.set_cons_zero, List.set_cons_succ])
            first | (refine take_on (i := 12) (v := ?_) rfl (by kernel_rfl) (by kernel_rfl) (by kernel_rfl) (fun _ _ _ h => h) rfl ?_ (by assumption) ?_; rotate_left; · (intro w' hSw; (try dsimp only at hSw); go_simp; (try with_reducible rfl))) | (refine take_off (i := 12) rfl (by kernel_rfl) (by kernel_rfl) (by kernel_rfl) (fun _ _ _ h => h) rfl (by assumption) ?_)
            (try simp only [Act.put, List.setIfInBounds_toArray, List.set_cons_zero, List.set_cons_succ])
            refine wpAnyH_ready (rs := [1, 13]) (by kernel_rfl) (by simp) ?_
            refine AllReadyH.cons rfl (fun K hK => ?_) (AllReadyH.cons rfl (fun K hK => ?_) (AllReadyH.nil))
            · rw [if_pos (by rfl)]
              go_simp
              refine hK.out _ _ ?_ (fun hHeld2 => ?_)
              · (try dsimp only); exact hHeld
              clear hK K hHeld; have hHeld := hHeld2; clear hHeld2; (try simp only [Act.put, List.setIfInBounds_toArray, List.set_cons_zero, List.set_cons_succ])
              refine wpAnyH_ready (rs := [13]) (by kernel_rfl) (by simp) ?_
              refine AllReadyH.cons rfl (fun K hK => ?_) AllReadyH.nil
              rw [if_pos (by rfl)]
              go_simp
              go_at_call 44
              refine (l00Own_any A3' n1 c3' r _ (HRD.out.below (by have h9 := hWr; go_grown)) HRLN.out h01 (by omega)).mono ?_
              rintro e w4 ⟨A4, c4, rfl, hown4, hb4⟩
              (try simp only [World.size_drew] at hown4)
              have hB4 : Below wr.heap.size wr w4 := Below.next (by go_grown) hb4
              have hz4 := hB4.size
              have HM4 : Hid (Mine rowsK w4 (wo.heap.size + 1) wr.heap.size R) := HMR.out.next rowsK_ok hB4
              have HO4 : Hid (Own hdC 78 1 w4 0 vr R.l) := by rw [← HRVV.out]; exact HM4.out.own.1
              have hbk4 : Bk w4 (wo.heap.size) 76 #[vr] := hbk2.next hB4
              obtain ⟨e4, f4⟩ := bk1 hbk4
              have hgl4 := hbk4.lt
              obtain ⟨y9, hy9⟩ : ∃ t : Sl Int, t = ⟨A4, c4, r⟩ := ⟨_, rfl⟩
              have HYV : Hid (y9.val = .slice A4 n1 c4) := by rw [Hid, hy9, ← HRLN.out]; rfl
              have HYL : Hid (y9.l = r) := by rw [Hid, hy9]
              have HMY : Hid (Mine rowK w4 wr.heap.size w4.heap.size y9) := by rw [hy9]; exact Mine.of_own0 hown4 HRLN.out
              clear hy9 hown4 hb4
              refine hK.out _ _ ?_ (fun hHeld2 => ?_)
              · (try dsimp only); exact S2.mk hB4 (by omega)
              clear hK K hHeld; have hHeld := hHeld2; clear hHeld2; (try simp only [Act.put, List.setIfInBounds_toArray, List.set_cons_zero, List.set_cons_succ])
              refine wpAnyH_ready (rs := [14]) (by kernel_rfl) (by simp) ?_
              refine AllReadyH.cons rfl (fun K hK => ?_) AllReadyH.nil
              rw [if_pos (by rfl)]
              go_simp
              refine hK.out _ _ ?_ (fun hHeld2 => ?_)
              · (try dsimp only); exact S2.mk (hB4.alloc (by omega) _) (by omega)
              clear hK K hHeld; have hHeld := hHeld2; clear hHeld2; (try simp only [Act.put, List.setIfInBounds_toArray, List.set_cons_zero, List.set_cons_succ])
              refine wpAnyH_ready (rs := [15]) (by kernel_rfl) (by simp) ?_
              refine AllReadyH.cons rfl (fun K hK => ?_) AllReadyH.nil
              refine step_push elem_row (by rfl) (.tmp 44) (.tmp 57) 69 (by rfl) Try.underlying69 0 vr R.l y9 (by rfl) (HO4.out.alloc _) j HRL.out w4.heap.size 1 (by rfl) (fun i u hu => ((Bk.new w4 #[.slice A4 n1 c4] 78).cell i).trans (by have h1 := HYV.out; unfold hdC at hu; rw [h1] at hu; simpa using hu)) (by unfold maxLen; omega) (by omega) (by simp only [World.size_drew, World.size_alloc]; omega) ?_
              intro g5 cap5 w5 hown5 hgrow5 hat5 hlt5 hkeep5
              have hbk5 : Bk w5 (wo.heap.size) 76 #[vr] := (hgrow5.block _ (by simp only [World.size_drew, World.size_alloc]; omega) (fun e => by have h2 := HIR.out _ e.symm; omega)).trans (hbk4.alloc _)
              obtain ⟨e5', f5⟩ := bk1 hbk5
              have hz5 := hgrow5.size
              simp only [World.size_drew, World.size_alloc] at hz5
              have hgl5 := hbk5.lt
              refine hK.out _ _ ?_ (fun hHeld2 => ?_)
              · (try dsimp only); exact S2.push hHeld hgrow5 (fun k hk => by have h2 := HIR.out k hk; omega) (by simp only [World.size_drew, World.size_alloc]; omega)
              clear hK K hHeld; have hHeld := hHeld2; clear hHeld2; (try simp only [Act.put, List.setIfInBounds_toArray, List.set_cons_zero, List.set_cons_succ])
              first | (refine take_on (i := 16) (v := ?_) rfl (by kernel_rfl) (by kernel_rfl) (by kernel_rfl) (fun _ _ _ h => h) rfl ?_ (by assumption) ?_; rotate_left; · (intro w' hSw; (try dsimp only at hSw); go_simp; (try with_reducible rfl))) | (refine take_off (i := 16) rfl (by kernel_rfl) (by kernel_rfl) (by kernel_rfl) (fun _ _ _ h => h) rfl (by assumption) ?_)
              (try simp only [Act.put, List.setIfInBounds_toArray, List.set_cons_zero, List.set_cons_succ])
              refine wpAnyH_ready (rs := [17]) (by kernel_rfl) (by simp) ?_
              refine AllReadyH.cons rfl (fun K hK => ?_) AllReadyH.nil
              rw [if_pos (by rfl)]
              go_simp
              refine hK.out _ _ ?_ (fun hHeld2 => ?_)
              · (try dsimp only); exact S2.store hHeld _
              clear hK K hHeld; have hHeld := hHeld2; clear hHeld2; (try simp only [Act.put, List.setIfInBounds_toArray, List.set_cons_zero, List.set_cons_succ])
              refine wpAnyH_done (by kernel_rfl) ?_ _
              have hS := hHeld.2.2
              clear hHeld
              go_wp2_with fail
              go_roundw
              case rel =>
                have hg5 := hgrow5
                rw [← HRVV.out] at hg5
                have ha5 := hat5
                rw [← HRVV.out] at ha5
                have hpush := Mine.push rowK_ok (T := 76) (g := g5) (cap := cap5) (B := 0) (wi := w4) HM4.out HMY.out (by omega) (by omega) (by go_grown) hg5 ha5 hlt5 (by rw [HRL.out]; exact hown5)
                have hfin := hpush.chg rowsK_ok (ChgF.setCell w5 (wo.heap.size) 0 (.slice (some ⟨g5, 0, none⟩) (j + 1) cap5)) (fun b hb hm => by have := hpush.rng b hb; simp at hm; omega)
                refine ⟨j + 1, ⟨some ⟨g5, 0, none⟩, cap5, R.l ++ [y9]⟩, by omega, by go_num, bk1_put hbk5, by simp [Hid, HRL.out], HNXT.out y9 _ _ HYL.out, ?_, hB2i.trans (hS.mono (by omega))⟩
                have hsz : (w5.setCell ⟨wo.heap.size, 0, none⟩ (.slice (some ⟨g5, 0, none⟩) (j + 1) cap5)).heap.size = w5.heap.size := by simp [World.setCell]
                rw [Hid, hsz]; exact hfin
              case measure => (simp [intOf]; try omega)
            · rw [if_pos (by rfl)]
              go_simp
              go_at_call 44
              refine (l00Own_any A3' n1 c3' r _ (HRD.out.below (by have h9 := hWr; go_grown)) HRLN.out h01 (by omega)).mono ?_
              rintro e w4 ⟨A4, c4, rfl, hown4, hb4⟩
              (try simp only [World.size_drew] at hown4)
              have hB4 : Below wr.heap.size wr w4 := Below.next (by go_grown) hb4
              have hz4 := hB4.size
              have HM4 : Hid (Mine rowsK w4 (wo.heap.size + 1) wr.heap.size R) := HMR.out.next rowsK_ok hB4
              have HO4 : Hid (Own hdC 78 1 w4 0 vr R.l) := by rw [← HRVV.out]; exact HM4.out.own.1
              have hbk4 : Bk w4 (wo.heap.size) 76 #[vr] := hbk2.next hB4
              obtain ⟨e4, f4⟩ := bk1 hbk4
              have hgl4 := hbk4.lt
              obtain ⟨y9, hy9⟩ : ∃ t : Sl Int, t = ⟨A4, c4, r⟩ := ⟨_, rfl⟩
              have HYV : Hid (y9.val = .slice A4 n1 c4) := by rw [Hid, hy9, ← HRLN.out]; rfl
              have HYL : Hid (y9.l = r) := by rw [Hid, hy9]
              have HMY : Hid (Mine rowK w4 wr.heap.size w4.heap.size y9) := by rw [hy9]; exact Mine.of_own0 hown4 HRLN.out
              clear hy9 hown4 hb4
              refine hK.out _ _ ?_ (fun hHeld2 => ?_)
              · (try dsimp only); exact S2.mk hB4 (by omega)
              clear hK K hHeld; have hHeld := hHeld2; clear hHeld2; (try simp only [Act.put, List.setIfInBounds_toArray, List.set_cons_zero, List.set_cons_succ])
              refine wpAnyH_ready (rs := [1, 14]) (by kernel_rfl) (by simp) ?_
              refine AllReadyH.cons rfl (fun K hK => ?_) (AllReadyH.cons rfl (fun K hK => ?_) (AllReadyH.nil))
              · rw [if_pos (by rfl)]
                go_simp
                refine hK.out _ _ ?_ (fun hHeld2 => ?_)
                · (try dsimp only); exact hHeld
                clear hK K hHeld; have hHeld := hHeld2; clear hHeld2; (try simp only [Act.put, List.setIfInBounds_toArray, List.set_cons_zero, List.set_cons_succ])
                refine wpAnyH_ready (rs := [14]) (by kernel_rfl) (by simp) ?_
                refine AllReadyH.cons rfl (fun K hK => ?_) AllReadyH.nil
                rw [if_pos (by rfl)]
                go_simp
                refine hK.out _ _ ?_ (fun hHeld2 => ?_)
                · (try dsimp only); exact S2.mk (hB4.alloc (by omega) _) (by omega)
                clear hK K hHeld; have hHeld := hHeld2; clear hHeld2; (try simp only [Act.put, List.setIfInBounds_toArray, List.set_cons_zero, List.set_cons_succ])
                refine wpAnyH_ready (rs := [15]) (by kernel_rfl) (by simp) ?_
                refine AllReadyH.cons rfl (fun K hK => ?_) AllReadyH.nil
                refine step_push elem_row (by rfl) (.tmp 44) (.tmp 57) 69 (by rfl) Try.underlying69 0 vr R.l y9 (by rfl) (HO4.out.alloc _) j HRL.out w4.heap.size 1 (by rfl) (fun i u hu => ((Bk.new w4 #[.slice A4 n1 c4] 78).cell i).trans (by have h1 := HYV.out; unfold hdC at hu; rw [h1] at hu; simpa using hu)) (by unfold maxLen; omega) (by omega) (by simp only [World.size_drew, World.size_alloc]; omega) ?_
                intro g5 cap5 w5 hown5 hgrow5 hat5 hlt5 hkeep5
                have hbk5 : Bk w5 (wo.heap.size) 76 #[vr] := (hgrow5.block _ (by simp only [World.size_drew, World.size_alloc]; omega) (fun e => by have h2 := HIR.out _ e.symm; omega)).trans (hbk4.alloc _)
                obtain ⟨e5', f5⟩ := bk1 hbk5
                have hz5 := hgrow5.size
                simp only [World.size_drew, World.size_alloc] at hz5
                have hgl5 := hbk5.lt
                refine hK.out _ _ ?_ (fun hHeld2 => ?_)
                · (try dsimp only); exact S2.push hHeld hgrow5 (fun k hk => by have h2 := HIR.out k hk; omega) (by simp only [World.size_drew, World.size_alloc]; omega)
                clear hK K hHeld; have hHeld := hHeld2; clear hHeld2; (try simp only [Act.put, List.setIfInBounds_toArray, List.set_cons_zero, List.set_cons_succ])
                first | (refine take_on (i := 16) (v := ?_) rfl (by kernel_rfl) (by kernel_rfl) (by kernel_rfl) (fun _ _ _ h => h) rfl ?_ (by assumption) ?_; rotate_left; · (intro w' hSw; (try dsimp only at hSw); go_simp; (try with_reducible rfl))) | (refine take_off (i := 16) rfl (by kernel_rfl) (by kernel_rfl) (by kernel_rfl) (fun _ _ _ h => h) rfl (by assumption) ?_)
                (try simp only [Act.put, List.setIfInBounds_toArray, List.set_cons_zero, List.set_cons_succ])
                refine wpAnyH_ready (rs := [17]) (by kernel_rfl) (by simp) ?_
                refine AllReadyH.cons rfl (fun K hK => ?_) AllReadyH.nil
                rw [if_pos (by rfl)]
                go_simp
                refine hK.out _ _ ?_ (fun hHeld2 => ?_)
                · (try dsimp only); exact S2.store hHeld _
                clear hK K hHeld; have hHeld := hHeld2; clear hHeld2; (try simp only [Act.put, List.setIfInBounds_toArray, List.set_cons_zero, List.set_cons_succ])
                refine wpAnyH_done (by kernel_rfl) ?_ _
                have hS := hHeld.2.2
                clear hHeld
                go_wp2_with fail
                go_roundw
                case rel =>
                  have hg5 := hgrow5
                  rw [← HRVV.out] at hg5
                  have ha5 := hat5
                  rw [← HRVV.out] at ha5
                  have hpush := Mine.push rowK_ok (T := 76) (g := g5) (cap := cap5) (B := 0) (wi := w4) HM4.out HMY.out (by omega) (by omega) (by go_grown) hg5 ha5 hlt5 (by rw [HRL.out]; exact hown5)
                  have hfin := hpush.chg rowsK_ok (ChgF.setCell w5 (wo.heap.size) 0 (.slice (some ⟨g5, 0, none⟩) (j + 1) cap5)) (fun b hb hm => by have := hpush.rng b hb; simp at hm; omega)
                  refine ⟨j + 1, ⟨some ⟨g5, 0, none⟩, cap5, R.l ++ [y9]⟩, by omega, by go_num, bk1_put hbk5, by simp [Hid, HRL.out], HNXT.out y9 _ _ HYL.out, ?_, hB2i.trans (hS.mono (by omega))⟩
                  have hsz : (w5.setCell ⟨wo.heap.size, 0, none⟩ (.slice (some ⟨g5, 0, none⟩) (j + 1) cap5)).heap.size = w5.heap.size := by simp [World.setCell]
                  rw [Hid, hsz]; exact hfin
                case measure => (simp [intOf]; try omega)
              · rw [if_pos (by rfl)]
                go_simp
                refine hK.out _ _ ?_ (fun hHeld2 => ?_)
                · (try dsimp only); exact S2.mk (hB4.alloc (by omega) _) (by omega)
                clear hK K hHeld; have hHeld := hHeld2; clear hHeld2; (try simp only [Act.put, List.setIfInBounds_toArray, List.set_cons_zero, List.set_cons_succ])
                refine wpAnyH_ready (rs := [1]) (by kernel_rfl) (by simp) ?_
                refine AllReadyH.cons rfl (fun K hK => ?_) AllReadyH.nil
                rw [if_pos (by rfl)]
                go_simp
                refine hK.out _ _ ?_ (fun hHeld2 => ?_)
                · (try dsimp only); exact hHeld
                clear hK K hHeld; have hHeld := hHeld2; clear hHeld2; (try simp only [Act.put, List.setIfInBounds_toArray, List.set_cons_zero, List.set_cons_succ])
                refine wpAnyH_ready (rs := [15]) (by kernel_rfl) (by simp) ?_
                refine AllReadyH.cons rfl (fun K hK => ?_) AllReadyH.nil
                refine step_push elem_row (by rfl) (.tmp 44) (.tmp 57) 69 (by rfl) Try.underlying69 0 vr R.l y9 (by rfl) (HO4.out.alloc _) j HRL.out w4.heap.size 1 (by rfl) (fun i u hu => ((Bk.new w4 #[.slice A4 n1 c4] 78).cell i).trans (by have h1 := HYV.out; unfold hdC at hu; rw [h1] at hu; simpa using hu)) (by unfold maxLen; omega) (by omega) (by simp only [World.size_drew, World.size_alloc]; omega) ?_
                intro g5 cap5 w5 hown5 hgrow5 hat5 hlt5 hkeep5
                have hbk5 : Bk w5 (wo.heap.size) 76 #[vr] := (hgrow5.block _ (by simp only [World.size_drew, World.size_alloc]; omega) (fun e => by have h2 := HIR.out _ e.symm; omega)).trans (hbk4.alloc _)
                obtain ⟨e5', f5⟩ := bk1 hbk5
                have hz5 := hgrow5.size
                simp only [World.size_drew, World.size_alloc] at hz5
                have hgl5 := hbk5.lt
                refine hK.out _ _ ?_ (fun hHeld2 => ?_)
                · (try dsimp only); exact S2.push hHeld hgrow5 (fun k hk => by have h2 := HIR.out k hk; omega) (by simp only [World.size_drew, World.size_alloc]; omega)
                clear hK K hHeld; have hHeld := hHeld2; clear hHeld2; (try simp only [Act.put, List.setIfInBounds_toArray, List.set_cons_zero, List.set_cons_succ])
                first | (refine take_on (i := 16) (v := ?_) rfl (by kernel_rfl) (by kernel_rfl) (by kernel_rfl) (fun _ _ _ h => h) rfl ?_ (by assumption) ?_; rotate_left; · (intro w' hSw; (try dsimp only at hSw); go_simp; (try with_reducible rfl))) | (refine take_off (i := 16) rfl (by kernel_rfl) (by kernel_rfl) (by kernel_rfl) (fun _ _ _ h => h) rfl (by assumption) ?_)
                (try simp only [Act.put, List.setIfInBounds_toArray, List.set_cons_zero, List.set_cons_succ])
                refine wpAnyH_ready (rs := [17]) (by kernel_rfl) (by simp) ?_
                refine AllReadyH.cons rfl (fun K hK => ?_) AllReadyH.nil
                rw [if_pos (by rfl)]
                go_simp
                refine hK.out _ _ ?_ (fun hHeld2 => ?_)
                · (try dsimp only); exact S2.store hHeld _
                clear hK K hHeld; have hHeld := hHeld2; clear hHeld2; (try simp only [Act.put, List.setIfInBounds_toArray, List.set_cons_zero, List.set_cons_succ])
                refine wpAnyH_done (by kernel_rfl) ?_ _
                have hS := hHeld.2.2
                clear hHeld
                go_wp2_with fail
                go_roundw
                case rel =>
                  have hg5 := hgrow5
                  rw [← HRVV.out] at hg5
                  have ha5 := hat5
                  rw [← HRVV.out] at ha5
                  have hpush := Mine.push rowK_ok (T := 76) (g := g5) (cap := cap5) (B := 0) (wi := w4) HM4.out HMY.out (by omega) (by omega) (by go_grown) hg5 ha5 hlt5 (by rw [HRL.out]; exact hown5)
                  have hfin := hpush.chg rowsK_ok (ChgF.setCell w5 (wo.heap.size) 0 (.slice (some ⟨g5, 0, none⟩) (j + 1) cap5)) (fun b hb hm => by have := hpush.rng b hb; simp at hm; omega)
                  refine ⟨j + 1, ⟨some ⟨g5, 0, none⟩, cap5, R.l ++ [y9]⟩, by omega, by go_num, bk1_put hbk5, by simp [Hid, HRL.out], HNXT.out y9 _ _ HYL.out, ?_, hB2i.trans (hS.mono (by omega))⟩
                  have hsz : (w5.setCell ⟨wo.heap.size, 0, none⟩ (.slice (some ⟨g5, 0, none⟩) (j + 1) cap5)).heap.size = w5.heap.size := by simp [World.setCell]
                  rw [Hid, hsz]; exact hfin
                case measure => (simp [intOf]; try omega)
          · obtain rfl : j = q := by omega
            have HRALL : Hid (rowsK.pl R = l.map rowK.pl) := by rw [Hid, HRP.out, List.take_of_length_le (by rw [LQ.out]; exact Nat.le_refl _)]
            have hne9 : ¬ b3 = wo.heap.size := by omega
            have HRV : Hid (R.val = .slice R.A j R.c) := by rw [Hid, ← HRL.out]; rfl
            have hMw : FileMine wr W0.heap.size wo.heap.size ⟨⟨Aa, ca, cs⟩, S, ⟨Ab, cb, []⟩⟩ := hM.out.next hB0
            have HMW := Lib.hid hMw
            have HMR2 : Hid (Mine rowsK wr wo.heap.size wr.heap.size R) := HMR.out.low (by omega) (Nat.le_refl _)
            have hbkw := hbk.next hB0
            obtain ⟨vs, hvs⟩ : ∃ v, Value.slice S.A k S.c = v := ⟨_, rfl⟩
            have HSV : Hid (Value.slice S.A S.l.length S.c = vs) := by rw [Hid, ← hvs, hSl.out]
            have HO : Hid (Own hdC 76 1 wr 0 vs S.l) := by rw [← HSV.out]; exact hMw.st.own.1
            have HI : Hid (∀ b, vs.ownBlock = some b → W0.heap.size ≤ b ∧ b < wo.heap.size) := fun b hb => hMw.st.rng b (Kd.fp_top (s := S) (by show (Value.slice S.A S.l.length S.c).ownBlock = some b; rw [HSV.out]; exact hb))
            have hvb : ¬ vs.ownBlock = some b3 := fun e => hF.out b3 (mem_fp2 (Kd.fp_top (s := S) (by show (Value.slice S.A S.l.length S.c).ownBlock = some b3; rw [HSV.out]; exact e))) rfl
            rw [hvs] at hbkw
            have HBW := Lib.hid hbkw
            have e0w := hbkw.cell 0
            have e1w := hbkw.cell 1
            have e2w := hbkw.cell 2
            have f1w := hbkw.frozen 1
            have hglw := hbkw.lt
            clear hMw hbkw hvs e0 e1 e2 f1
            go_wp2_with ((at_builtin; refine list_push elem_rows (by rfl) (.tmp 61) (.tmp 63) 32 (by rfl) Try.underlying32 0 vs S.l R (by rfl) (HO.out.alloc _) k hSl.out wr.heap.size 1 (by rfl) (fun i u hu => ((Bk.new wr #[.slice R.A j R.c] 76).cell i).trans (by have h1 := HRV.out; unfold hdC at hu; rw [h1] at hu; simpa using hu)) (by unfold maxLen; omega) (by omega) (by simp only [World.size_alloc]; omega) ?_; intro g5 cap5 w5 hown5 hgrow5 hat5 hlt5 hkeep5; have hbk5 : Bk w5 b3 35 #[.slice Aa n1 ca, vs, .slice Ab 0 cb] := (hgrow5.block _ (by simp only [World.size_alloc]; omega) (fun e => hvb e.symm)).trans (HBW.out.alloc _); have e51 := hbk5.cell 1; have f51 := hbk5.frozen 1; have hz5 := hgrow5.size; simp only [World.size_alloc] at hz5; have hgl5 := hbk5.lt))
            go_roundw
            case rel =>
              have hg5 := hgrow5
              rw [← HSV.out] at hg5
              have ha5 := hat5
              rw [← HSV.out] at ha5
              have hpush := FileMine.pushSt (g := g5) (cap := cap5) (B := 0) (wi := wr) (a := R) HMW.out HMR2.out hB0.size (by omega) (by go_grown) hg5 ha5 hlt5 (by rw [hSl.out]; exact hown5)
              have hfpN : ∀ b ∈ fileFp ⟨⟨Aa, ca, cs⟩, ⟨some ⟨g5, 0, none⟩, cap5, S.l ++ [R]⟩, ⟨Ab, cb, []⟩⟩, b ≠ b3 := fun b hb => by
                rcases pushSt_fp (hi := wo.heap.size) (fun b hb => (HMR2.out.rng b hb).1) (by simp only [World.size_alloc, World.size_drew]; omega) ha5 hb with h1 | h1
                · exact hF.out b h1
                · omega
              have hfin := hpush.besides (ChgF.setCell w5 b3 1 (.slice (some ⟨g5, 0, none⟩) (k + 1) cap5)) (fun b hb hm => hfpN b hb (by simpa using hm))
              refine ⟨k + 1, ⟨some ⟨g5, 0, none⟩, cap5, S.l ++ [R]⟩, by omega, by go_num, by have := hbk5.put 1 (.slice (some ⟨g5, 0, none⟩) (k + 1) cap5); simpa using this, by simp [Hid, hSl.out], HSK.out R HRALL.out, ?_, hfpN, ?_⟩
              · have hsz : (w5.setCell ⟨b3, 1, none⟩ (.slice (some ⟨g5, 0, none⟩) (k + 1) cap5)).heap.size = w5.heap.size := by simp [World.setCell]
                rw [Hid, hsz]; exact hfin
              · have hG := hW.trans (hB0.mono (show W0.heap.size ≤ wo.heap.size by omega))
                have hG2 := (hG.alloc (show W0.heap.size ≤ wr.heap.size by omega) (.cells #[.slice R.A j R.c] 76)).grown hgrow5 (by simp only [World.size_alloc]; omega) (fun b hb => by have h2 := HI.out b hb; omega)
                exact hG2.setCell hwb _
            case measure => (simp [intOf]; try omega)
      · obtain rfl : k = n2 := by omega
        have hB9 : Below W0.heap.size W0 wo := hB2.trans hW
        have KRo := KR.out.next hB9
        have r0 := KRo.cell 0
        have r1 := KRo.cell 1
        have r2 := KRo.cell 2
        have s0 := KRo.frozen 0
        have s1 := KRo.frozen 1
        have s2 := KRo.frozen 2
        have hgr := KRo.lt
        have hneb : ¬ b3 = w.heap.size := by omega
        go_wp2_with fail
        refine bodyPost_ret (by simp [results, Try.results19, go_sem, *]; try rfl) rfl ?_
        refine ⟨⟨⟨Aa, ca, cs⟩, S, ⟨Ab, cb, []⟩⟩, ?_, ?_, ?_, by have hT9 := hWw; go_grown⟩
        · show _ = Ending.returned (.agg #[.slice Aa cs.length ca, .slice S.A S.l.length S.c, .slice Ab [].length cb])
          rw [N1.out, hSl.out]; rfl
        · rw [← HP.out]
          show FlP.mk cs (S.l.map rowsK.pl) [] = FlP.mk cs (ss.map rowsK.pl) []
          rw [hSp.out, List.take_of_length_le (by rw [N2.out]; exact Nat.le_refl _)]
        · have h1 := ((hM.out.set (bF := w.heap.size) (o := 0) (u := .slice Aa n1 ca) (by omega)).set (bF := w.heap.size) (o := 1) (u := .slice S.A k S.c) (by omega)).set (bF := w.heap.size) (o := 2) (u := .slice Ab 0 cb) (by omega)
          exact h1.low (by omega) (by simp [World.setCell])
end Go.Proofs.Ytmdmjnhebbhjbaa
