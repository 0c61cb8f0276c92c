/-
  The program's copy of a file.
-/
import Derived.Test.YtmdmjnhebbhjbaaCpP
namespace Go.Proofs.Ytmdmjnhebbhjbaa
set_option linter.unusedSimpArgs false
set_option linter.unusedVariables false
set_option maxRecDepth 20000
open Go.RowKit
open Go.ChangeShapes Go.WideShapes Go.Deep Go.Joins

set_option maxHeartbeats 8000000 in
theorem copyFile_go (A1 A2 A3 : Option Addr) (c1 c2 c3 n1 n2 n3 : Nat) (cs : List Ch) (ss : List (Sl (Sl Int))) (ns : List No) (p : FlP) (w : World) (hl1 : cs.length = n1) (hl2 : ss.length = n2) (hl3 : ns.length = n3) (h : FileRd w ⟨⟨A1, c1, cs⟩, ⟨A2, c2, ss⟩, ⟨A3, c3, ns⟩⟩) (hp : filePl ⟨⟨A1, c1, cs⟩, ⟨A2, c2, ss⟩, ⟨A3, c3, ns⟩⟩ = p) (hok : FileOk p) :
    Calls Try.prog 26 #[.agg #[.slice A1 n1 c1, .slice A2 n2 c2, .slice A3 n3 c3]] w fun e w' => ∃ f, e = .returned (.agg #[.slice f.ch.A f.ch.l.length f.ch.c, .slice f.st.A f.st.l.length f.st.c, .slice f.no.A f.no.l.length f.no.c]) ∧ filePl f = p ∧ FileMine w' w.heap.size w'.heap.size f ∧ Below w.heap.size w w' := by
  have HPC : Hid (cs = p.ch) := congrArg FlP.ch hp
  have HPS : Hid (ss.map rowsK.pl = p.st) := congrArg FlP.st hp
  have HPN : Hid (ns = p.no) := congrArg FlP.no hp
  have HP := Lib.hid hp
  have HOK := Lib.hid hok
  have RCH : Hid (Rd w A1 n1 4 (rowOf chC cs)) := by rw [← hl1]; exact h.ch.1
  have RST : Hid (Rd w A2 n2 1 (rowOf hdC ss)) := by rw [← hl2]; exact h.st.1
  have RSS : Hid (∀ a ∈ ss, rowsK.rd w a) := h.st.2
  have RNO : Hid (Rd w A3 n3 3 (rowOf noC ns)) := by rw [← hl3]; exact h.no.1
  have h01 : 0 < n1 := by rw [← hl1, show cs = p.ch from HPC.out]; exact hok.c1
  have hb1 : n1 ≤ 6 := by rw [← hl1, show cs = p.ch from HPC.out]; exact hok.c6
  have hb2 : n2 ≤ 16 := by rw [← hl2, ← List.length_map (f := rowsK.pl), show ss.map rowsK.pl = p.st from HPS.out]; exact hok.s16
  have hb3 : n3 ≤ 12 := by rw [← hl3, show ns = p.no from HPN.out]; exact hok.n12
  have N1 := Lib.hid hl1
  have N2 := Lib.hid hl2
  have N3 := Lib.hid hl3
  clear h hp hok hl1 hl2 hl3
  go_enter Try.func26, Try.ntmps26
  go_upto_region 1 with fail
  obtain ⟨W0, hW0⟩ : ∃ z, z = ((w.alloc (.cells #[.slice A1 n1 c1, .slice A2 n2 c2, .slice A3 n3 c3] 35)).alloc (.cells #[.slice none 0 0, .slice none 0 0, .slice none 0 0] 35)) := ⟨_, rfl⟩
  rw [← hW0]
  have hBW0 : Below w.heap.size w W0 := by rw [hW0]; exact ((Below.refl _ _).alloc (Nat.le_refl _) _).alloc (by simp) _
  have hSW0 : W0.heap.size ≤ w.heap.size + 1 + 1 := by rw [hW0]; simp
  have hSW1 : w.heap.size + 1 + 1 ≤ W0.heap.size := by rw [hW0]; simp
  have KB : Hid (Bk W0 w.heap.size 35 #[.slice A1 n1 c1, .slice A2 n2 c2, .slice A3 n3 c3]) := by rw [hW0]; exact (Bk.new w _ _).alloc _
  have KR : Hid (Bk W0 (w.heap.size + 1) 35 #[.slice none 0 0, .slice none 0 0, .slice none 0 0]) := by rw [hW0]; exact Bk.new1 w _ _ _
  have q0 := KB.out.cell 0
  have q1 := KB.out.cell 1
  have q2 := KB.out.cell 2
  have hql : w.heap.size < W0.heap.size := by omega
  clear hW0
  go_cut [3] (fun q wx => ∃ (b3 : Nat) (Aa Ab : Option Addr) (ca cb : Nat), q = .pointer (some ⟨b3, 0, none⟩) ∧ Bk wx b3 35 #[.slice Aa n1 ca, .slice none 0 0, .slice Ab n3 cb] ∧ Own chC 74 4 wx W0.heap.size (.slice Aa n1 ca) cs ∧ Own noC 39 3 wx W0.heap.size (.slice Ab n3 cb) ns ∧ (∀ b, (Value.slice Aa n1 ca).ownBlock = some b → (Value.slice Ab n3 cb).ownBlock ≠ some b) ∧ (Value.slice Aa n1 ca).ownBlock ≠ some b3 ∧ (Value.slice Ab n3 cb).ownBlock ≠ some b3 ∧ W0.heap.size ≤ b3 ∧ Below W0.heap.size W0 wx)
  case first =>
    refine wp_region_held_drew (S := (fun w' => (∀ kb ko, kb < W0.heap.size → w'.cell? ⟨kb, ko, none⟩ = W0.cell? ⟨kb, ko, none⟩) ∧ W0.heap.size ≤ w'.heap.size ∧ Below W0.heap.size W0 w')) (by kernel_rfl) ?_ (fun hHeld => ?_)
    · (try dsimp only); exact SB.mk ((Below.refl _ _).drew)
    first | (refine take_on (i := 0) (v := ?_) rfl (by kernel_rfl) (by kernel_rfl) (by kernel_rfl) (fun _ _ _ h => h) rfl ?_ (by assumption) ?_; rotate_left; · (intro w' hSw; (try dsimp only at hSw); go_simp; (try with_reducible rfl))) | (refine take_off (i := 0) rfl (by kernel_rfl) (by kernel_rfl) (by kernel_rfl) (fun _ _ _ h => h) rfl (by assumption) ?_)
    (try simp only [Act.put, List.setIfInBounds_toArray, List.set_cons_zero, List.set_cons_succ])
    first | (refine take_on (i := 1) (v := ?_) rfl (by kernel_rfl) (by kernel_rfl) (by kernel_rfl) (fun _ _ _ h => h) rfl ?_ (by assumption) ?_; rotate_left; · (intro w' hSw; (try dsimp only at hSw); go_simp; (try with_reducible rfl))) | (refine take_off (i := 1) rfl (by kernel_rfl) (by kernel_rfl) (by kernel_rfl) (fun _ _ _ h => h) rfl (by assumption) ?_)
    (try simp only [Act.put, List.setIfInBounds_toArray, List.set_cons_zero, List.set_cons_succ])
    first | (refine take_on (i := 3) (v := ?_) rfl (by kernel_rfl) (by kernel_rfl) (by kernel_rfl) (fun _ _ _ h => h) rfl ?_ (by assumption) ?_; rotate_left; · (intro w' hSw; (try dsimp only at hSw); go_simp; (try with_reducible rfl))) | (refine take_off (i := 3) rfl (by kernel_rfl) (by kernel_rfl) (by kernel_rfl) (fun _ _ _ h => h) rfl (by assumption) ?_)
    (try simp only [Act.put, List.setIfInBounds_toArray, List.set_cons_zero, List.set_cons_succ])
    first | (refine take_on (i := 4) (v := ?_) rfl (by kernel_rfl) (by kernel_rfl) (by kernel_rfl) (fun _ _ _ h => h) rfl ?_ (by assumption) ?_; rotate_left; · (intro w' hSw; (try dsimp only at hSw); go_simp; (try with_reducible rfl))) | (refine take_off (i := 4) rfl (by kernel_rfl) (by kernel_rfl) (by kernel_rfl) (fun _ _ _ h => h) rfl (by assumption) ?_)
    (try simp only [Act.put, List.setIfInBounds_toArray, List.set_cons_zero, List.set_cons_succ])
    have zx0 : W0.heap.size ≤ W0.drew.heap.size := Nat.le_refl _
    refine wpAnyH_ready (rs := [2, 7]) (by kernel_rfl) (by simp) ?_
    refine AllReadyH.cons rfl (fun K hK => ?_) (AllReadyH.cons rfl (fun K hK => ?_) (AllReadyH.nil))
    · rw [if_pos (by rfl)]
      go_simp
      go_at_call 51
      refine (cloneCh_any A1 n1 c1 cs W0.drew (RCH.out.below (Below.next hBW0 hHeld.2.2)) N1.out h01 (by omega)).mono ?_
      rintro e x1 ⟨Aoa, coa, rfl, hoa, bx1⟩
      have oa := hoa.mono hHeld.2.1
      have la := hoa.lt
      have zx1 := bx1.size
      clear hoa
      have hQx1 := Below.next hHeld.2.2 bx1
      refine hK.out _ _ ?_ (fun hHeld2 => ?_)
      · (try dsimp only); exact SB.mk hQx1
      clear hK K hHeld; have hHeld := hHeld2; clear hHeld2; (try simp only [Act.put, List.setIfInBounds_toArray, List.set_cons_zero, List.set_cons_succ])
      clear hQx1
      refine wpAnyH_ready (rs := [5, 7]) (by kernel_rfl) (by simp) ?_
      refine AllReadyH.cons rfl (fun K hK => ?_) (AllReadyH.cons rfl (fun K hK => ?_) (AllReadyH.nil))
      · rw [if_pos (by rfl)]
        go_simp
        go_at_call 52
        refine (cloneNo_any A3 n3 c3 ns x1 (RNO.out.below (Below.next hBW0 hHeld.2.2)) N3.out (by omega)).mono ?_
        rintro e x2 ⟨Aob, cob, rfl, hob, bx2⟩
        have ob := hob.mono hHeld.2.1
        have lb := hob.lt
        have zx2 := bx2.size
        clear hob
        have hQx2 := Below.next hHeld.2.2 bx2
        refine hK.out _ _ ?_ (fun hHeld2 => ?_)
        · (try dsimp only); exact SB.mk hQx2
        clear hK K hHeld; have hHeld := hHeld2; clear hHeld2; (try simp only [Act.put, List.setIfInBounds_toArray, List.set_cons_zero, List.set_cons_succ])
        clear hQx2
        have oa := oa.next bx2
        first | (refine take_on (i := 6) (v := ?_) rfl (by kernel_rfl) (by kernel_rfl) (by kernel_rfl) (fun _ _ _ h => h) rfl ?_ (by assumption) ?_; rotate_left; · (intro w' hSw; (try dsimp only at hSw); go_simp; (try with_reducible rfl))) | (refine take_off (i := 6) rfl (by kernel_rfl) (by kernel_rfl) (by kernel_rfl) (fun _ _ _ h => h) rfl (by assumption) ?_)
        (try simp only [Act.put, List.setIfInBounds_toArray, List.set_cons_zero, List.set_cons_succ])
        refine wpAnyH_ready (rs := [7]) (by kernel_rfl) (by simp) ?_
        refine AllReadyH.cons rfl (fun K hK => ?_) (AllReadyH.nil)
        · rw [if_pos (by rfl)]
          go_simp
          have vx3 : W0.heap.size ≤ x2.heap.size := hHeld.2.1
          refine hK.out _ _ ?_ (fun hHeld2 => ?_)
          · (try dsimp only); exact SB.mk (by first | exact hHeld.2.2.alloc hHeld.2.1 _ | go_grown)
          clear hK K hHeld; have hHeld := hHeld2; clear hHeld2; (try simp only [Act.put, List.setIfInBounds_toArray, List.set_cons_zero, List.set_cons_succ])
          obtain ⟨x3, hx3⟩ : ∃ z, z = x2.alloc (.cells #[.slice none 0 0, .slice none 0 0, .slice none 0 0] 35) := ⟨_, rfl⟩
          rw [← hx3] at hHeld ⊢
          have bx3 : Below x2.heap.size x2 x3 := by rw [hx3]; first | exact (Below.refl _ _).alloc (Nat.le_refl _) _ | go_grown
          have zx3 : x3.heap.size ≤ x2.heap.size + 1 := by rw [hx3]; simp [World.size_drew, World.size_alloc]
          have yx3 : x2.heap.size + 1 ≤ x3.heap.size := by rw [hx3]; simp [World.size_drew, World.size_alloc]
          have k3 : Bk x3 x2.heap.size 35 #[.slice none 0 0, .slice none 0 0, .slice none 0 0] := by rw [hx3]; first | exact Bk.new _ _ _ | exact Bk.new W0 _ _
          have wk3 : W0.heap.size ≤ x2.heap.size := vx3
          clear hx3
          have oa := oa.next bx3
          have ob := ob.next bx3
          have e0 := k3.cell 0
          have e1 := k3.cell 1
          have e2 := k3.cell 2
          have f0 := k3.frozen 0
          have f1 := k3.frozen 1
          have f2 := k3.frozen 2
          have lt3 := k3.lt
          refine wpAnyH_ready (rs := [8]) (by kernel_rfl) (by simp) ?_
          refine AllReadyH.cons rfl (fun K hK => ?_) AllReadyH.nil
          rw [if_pos (by rfl)]
          go_simp
          refine hK.out _ _ ?_ (fun hHeld2 => ?_)
          · (try dsimp only); exact SB.mk (((hHeld.2.2.setCell wk3 _).setCell wk3 _).setCell wk3 _)
          clear hK K hHeld; have hHeld := hHeld2; clear hHeld2; (try simp only [Act.put, List.setIfInBounds_toArray, List.set_cons_zero, List.set_cons_succ])
          refine wpAnyH_done (by kernel_rfl) ?_ _
          have hF := hHeld.2.2
          clear hHeld
          go_wp2_with fail
          go_meet
          refine ⟨x2.heap.size, Aoa, Aob, coa, cob, rfl, ?_, ?_, ?_, ?_, ?_, ?_, wk3, hF⟩
          · have h1 := ((k3.put 0 (.slice Aoa n1 coa)).put 1 (.slice none 0 0)).put 2 (.slice Aob n3 cob)
            simpa using h1
          · exact ((oa.setCell _ _ (fun k hk => by have h1 := la k hk; simp only [ne_eq]; omega)).setCell _ _ (fun k hk => by have h1 := la k hk; simp only [ne_eq]; omega)).setCell _ _ (fun k hk => by have h1 := la k hk; simp only [ne_eq]; omega)
          · exact ((ob.setCell _ _ (fun k hk => by have h1 := lb k hk; simp only [ne_eq]; omega)).setCell _ _ (fun k hk => by have h1 := lb k hk; simp only [ne_eq]; omega)).setCell _ _ (fun k hk => by have h1 := lb k hk; simp only [ne_eq]; omega)
          · exact fun b h1 h2 => by have h3 := la b h1; have h4 := lb b h2; omega
          · exact fun e => by have h3 := la _ e; omega
          · exact fun e => by have h3 := lb _ e; omega
      · rw [if_pos (by rfl)]
        go_simp
        have vx4 : W0.heap.size ≤ x1.heap.size := hHeld.2.1
        refine hK.out _ _ ?_ (fun hHeld2 => ?_)
        · (try dsimp only); exact SB.mk (by first | exact hHeld.2.2.alloc hHeld.2.1 _ | go_grown)
        clear hK K hHeld; have hHeld := hHeld2; clear hHeld2; (try simp only [Act.put, List.setIfInBounds_toArray, List.set_cons_zero, List.set_cons_succ])
        obtain ⟨x4, hx4⟩ : ∃ z, z = x1.alloc (.cells #[.slice none 0 0, .slice none 0 0, .slice none 0 0] 35) := ⟨_, rfl⟩
        rw [← hx4] at hHeld ⊢
        have bx4 : Below x1.heap.size x1 x4 := by rw [hx4]; first | exact (Below.refl _ _).alloc (Nat.le_refl _) _ | go_grown
        have zx4 : x4.heap.size ≤ x1.heap.size + 1 := by rw [hx4]; simp [World.size_drew, World.size_alloc]
        have yx4 : x1.heap.size + 1 ≤ x4.heap.size := by rw [hx4]; simp [World.size_drew, World.size_alloc]
        have k3 : Bk x4 x1.heap.size 35 #[.slice none 0 0, .slice none 0 0, .slice none 0 0] := by rw [hx4]; first | exact Bk.new _ _ _ | exact Bk.new W0 _ _
        have wk3 : W0.heap.size ≤ x1.heap.size := vx4
        clear hx4
        have oa := oa.next bx4
        refine wpAnyH_ready (rs := [5]) (by kernel_rfl) (by simp) ?_
        refine AllReadyH.cons rfl (fun K hK => ?_) (AllReadyH.nil)
        · rw [if_pos (by rfl)]
          go_simp
          go_at_call 52
          refine (cloneNo_any A3 n3 c3 ns x4 (RNO.out.below (Below.next hBW0 hHeld.2.2)) N3.out (by omega)).mono ?_
          rintro e x5 ⟨Aob, cob, rfl, hob, bx5⟩
          have ob := hob.mono hHeld.2.1
          have lb := hob.lt
          have zx5 := bx5.size
          clear hob
          have hQx5 := Below.next hHeld.2.2 bx5
          refine hK.out _ _ ?_ (fun hHeld2 => ?_)
          · (try dsimp only); exact SB.mk hQx5
          clear hK K hHeld; have hHeld := hHeld2; clear hHeld2; (try simp only [Act.put, List.setIfInBounds_toArray, List.set_cons_zero, List.set_cons_succ])
          clear hQx5
          have oa := oa.next bx5
          have k3 := k3.next bx5
          first | (refine take_on (i := 6) (v := ?_) rfl (by kernel_rfl) (by kernel_rfl) (by kernel_rfl) (fun _ _ _ h => h) rfl ?_ (by assumption) ?_; rotate_left; · (intro w' hSw; (try dsimp only at hSw); go_simp; (try with_reducible rfl))) | (refine take_off (i := 6) rfl (by kernel_rfl) (by kernel_rfl) (by kernel_rfl) (fun _ _ _ h => h) rfl (by assumption) ?_)
          (try simp only [Act.put, List.setIfInBounds_toArray, List.set_cons_zero, List.set_cons_succ])
          have e0 := k3.cell 0
          have e1 := k3.cell 1
          have e2 := k3.cell 2
          have f0 := k3.frozen 0
          have f1 := k3.frozen 1
          have f2 := k3.frozen 2
          have lt3 := k3.lt
          refine wpAnyH_ready (rs := [8]) (by kernel_rfl) (by simp) ?_
          refine AllReadyH.cons rfl (fun K hK => ?_) AllReadyH.nil
          rw [if_pos (by rfl)]
          go_simp
          refine hK.out _ _ ?_ (fun hHeld2 => ?_)
          · (try dsimp only); exact SB.mk (((hHeld.2.2.setCell wk3 _).setCell wk3 _).setCell wk3 _)
          clear hK K hHeld; have hHeld := hHeld2; clear hHeld2; (try simp only [Act.put, List.setIfInBounds_toArray, List.set_cons_zero, List.set_cons_succ])
          refine wpAnyH_done (by kernel_rfl) ?_ _
          have hF := hHeld.2.2
          clear hHeld
          go_wp2_with fail
          go_meet
          refine ⟨x1.heap.size, Aoa, Aob, coa, cob, rfl, ?_, ?_, ?_, ?_, ?_, ?_, wk3, hF⟩
          · have h1 := ((k3.put 0 (.slice Aoa n1 coa)).put 1 (.slice none 0 0)).put 2 (.slice Aob n3 cob)
            simpa using h1
          · exact ((oa.setCell _ _ (fun k hk => by have h1 := la k hk; simp only [ne_eq]; omega)).setCell _ _ (fun k hk => by have h1 := la k hk; simp only [ne_eq]; omega)).setCell _ _ (fun k hk => by have h1 := la k hk; simp only [ne_eq]; omega)
          · exact ((ob.setCell _ _ (fun k hk => by have h1 := lb k hk; simp only [ne_eq]; omega)).setCell _ _ (fun k hk => by have h1 := lb k hk; simp only [ne_eq]; omega)).setCell _ _ (fun k hk => by have h1 := lb k hk; simp only [ne_eq]; omega)
          · exact fun b h1 h2 => by have h3 := la b h1; have h4 := lb b h2; omega
          · exact fun e => by have h3 := la _ e; omega
          · exact fun e => by have h3 := lb _ e; omega
    · rw [if_pos (by rfl)]
      go_simp
      have vx6 : W0.heap.size ≤ W0.drew.heap.size := hHeld.2.1
      refine hK.out _ _ ?_ (fun hHeld2 => ?_)
      · (try dsimp only); exact SB.mk (by first | exact hHeld.2.2.alloc hHeld.2.1 _ | go_grown)
      clear hK K hHeld; have hHeld := hHeld2; clear hHeld2; (try simp only [Act.put, List.setIfInBounds_toArray, List.set_cons_zero, List.set_cons_succ])
      obtain ⟨x6, hx6⟩ : ∃ z, z = (W0.alloc (.cells #[.slice none 0 0, .slice none 0 0, .slice none 0 0] 35)).drew := ⟨_, rfl⟩
      rw [← hx6] at hHeld ⊢
      have bx6 : Below W0.drew.heap.size W0.drew x6 := by rw [hx6]; first | exact (Below.refl _ _).alloc (Nat.le_refl _) _ | go_grown
      have zx6 : x6.heap.size ≤ W0.heap.size + 1 := by rw [hx6]; simp [World.size_drew, World.size_alloc]
      have yx6 : W0.heap.size + 1 ≤ x6.heap.size := by rw [hx6]; simp [World.size_drew, World.size_alloc]
      have k3 : Bk x6 W0.heap.size 35 #[.slice none 0 0, .slice none 0 0, .slice none 0 0] := by rw [hx6]; first | exact Bk.new _ _ _ | exact Bk.new W0 _ _
      have wk3 : W0.heap.size ≤ W0.heap.size := vx6
      clear hx6
      refine wpAnyH_ready (rs := [2]) (by kernel_rfl) (by simp) ?_
      refine AllReadyH.cons rfl (fun K hK => ?_) (AllReadyH.nil)
      · rw [if_pos (by rfl)]
        go_simp
        go_at_call 51
        refine (cloneCh_any A1 n1 c1 cs x6 (RCH.out.below (Below.next hBW0 hHeld.2.2)) N1.out h01 (by omega)).mono ?_
        rintro e x7 ⟨Aoa, coa, rfl, hoa, bx7⟩
        have oa := hoa.mono hHeld.2.1
        have la := hoa.lt
        have zx7 := bx7.size
        clear hoa
        have hQx7 := Below.next hHeld.2.2 bx7
        refine hK.out _ _ ?_ (fun hHeld2 => ?_)
        · (try dsimp only); exact SB.mk hQx7
        clear hK K hHeld; have hHeld := hHeld2; clear hHeld2; (try simp only [Act.put, List.setIfInBounds_toArray, List.set_cons_zero, List.set_cons_succ])
        clear hQx7
        have k3 := k3.next bx7
        refine wpAnyH_ready (rs := [5]) (by kernel_rfl) (by simp) ?_
        refine AllReadyH.cons rfl (fun K hK => ?_) (AllReadyH.nil)
        · rw [if_pos (by rfl)]
          go_simp
          go_at_call 52
          refine (cloneNo_any A3 n3 c3 ns x7 (RNO.out.below (Below.next hBW0 hHeld.2.2)) N3.out (by omega)).mono ?_
          rintro e x8 ⟨Aob, cob, rfl, hob, bx8⟩
          have ob := hob.mono hHeld.2.1
          have lb := hob.lt
          have zx8 := bx8.size
          clear hob
          have hQx8 := Below.next hHeld.2.2 bx8
          refine hK.out _ _ ?_ (fun hHeld2 => ?_)
          · (try dsimp only); exact SB.mk hQx8
          clear hK K hHeld; have hHeld := hHeld2; clear hHeld2; (try simp only [Act.put, List.setIfInBounds_toArray, List.set_cons_zero, List.set_cons_succ])
          clear hQx8
          have k3 := k3.next bx8
          have oa := oa.next bx8
          first | (refine take_on (i := 6) (v := ?_) rfl (by kernel_rfl) (by kernel_rfl) (by kernel_rfl) (fun _ _ _ h => h) rfl ?_ (by assumption) ?_; rotate_left; · (intro w' hSw; (try dsimp only at hSw); go_simp; (try with_reducible rfl))) | (refine take_off (i := 6) rfl (by kernel_rfl) (by kernel_rfl) (by kernel_rfl) (fun _ _ _ h => h) rfl (by assumption) ?_)
          (try simp only [Act.put, List.setIfInBounds_toArray, List.set_cons_zero, List.set_cons_succ])
          have e0 := k3.cell 0
          have e1 := k3.cell 1
          have e2 := k3.cell 2
          have f0 := k3.frozen 0
          have f1 := k3.frozen 1
          have f2 := k3.frozen 2
          have lt3 := k3.lt
          refine wpAnyH_ready (rs := [8]) (by kernel_rfl) (by simp) ?_
          refine AllReadyH.cons rfl (fun K hK => ?_) AllReadyH.nil
          rw [if_pos (by rfl)]
          go_simp
          refine hK.out _ _ ?_ (fun hHeld2 => ?_)
          · (try dsimp only); exact SB.mk (((hHeld.2.2.setCell wk3 _).setCell wk3 _).setCell wk3 _)
          clear hK K hHeld; have hHeld := hHeld2; clear hHeld2; (try simp only [Act.put, List.setIfInBounds_toArray, List.set_cons_zero, List.set_cons_succ])
          refine wpAnyH_done (by kernel_rfl) ?_ _
          have hF := hHeld.2.2
          clear hHeld
          go_wp2_with fail
          go_meet
          refine ⟨W0.heap.size, Aoa, Aob, coa, cob, rfl, ?_, ?_, ?_, ?_, ?_, ?_, wk3, hF⟩
          · have h1 := ((k3.put 0 (.slice Aoa n1 coa)).put 1 (.slice none 0 0)).put 2 (.slice Aob n3 cob)
            simpa using h1
          · exact ((oa.setCell _ _ (fun k hk => by have h1 := la k hk; simp only [ne_eq]; omega)).setCell _ _ (fun k hk => by have h1 := la k hk; simp only [ne_eq]; omega)).setCell _ _ (fun k hk => by have h1 := la k hk; simp only [ne_eq]; omega)
          · exact ((ob.setCell _ _ (fun k hk => by have h1 := lb k hk; simp only [ne_eq]; omega)).setCell _ _ (fun k hk => by have h1 := lb k hk; simp only [ne_eq]; omega)).setCell _ _ (fun k hk => by have h1 := lb k hk; simp only [ne_eq]; omega)
          · exact fun b h1 h2 => by have h3 := la b h1; have h4 := lb b h2; omega
          · exact fun e => by have h3 := la _ e; omega
          · exact fun e => by have h3 := lb _ e; omega
  case rest =>
    obtain ⟨w2, rfl⟩ : ∃ x, x = wc := ⟨wc, rfl⟩
    obtain ⟨b3, Aa, Ab, ca, cb, rfl, hbk0, ho1, ho3, hd, hd1, hd3, hwb, hB2⟩ := hcut
    obtain ⟨hmine0, hfp0⟩ := file_own ho1 N1.out ho3 N3.out hd hd1 hd3
    have hT2 : Below w.heap.size w w2 := Below.next hBW0 hB2
    have KB2 := Lib.hid (KB.out.next hB2)
    clear q0 q1 q2 ho1 ho3 hd hd1 hd3
    have q1 : w2.cell? ⟨w.heap.size, 1, none⟩ = some (.slice A2 n2 c2) := KB2.out.cell 1
    have hql2 := KB2.out.lt
    go_wp2_with fail
    clear q1
    go_loopw [19] (fun i wr => ∃ (k : Nat) (S : Sl (Sl (Sl Int))), k ≤ n2 ∧ i = .int .i64 (k : Int) ∧ Bk wr b3 35 #[.slice Aa n1 ca, .slice S.A k S.c, .slice Ab n3 cb] ∧ Hid (S.l.length = k) ∧ Hid (S.l.map rowsK.pl = (ss.take k).map rowsK.pl) ∧ Hid (FileMine wr W0.heap.size wr.heap.size ⟨⟨Aa, ca, cs⟩, S, ⟨Ab, cb, ns⟩⟩) ∧ Hid (∀ b ∈ fileFp ⟨⟨Aa, ca, cs⟩, S, ⟨Ab, cb, ns⟩⟩, b ≠ b3) ∧ Below W0.heap.size w2 wr) (fun i _ => n2 - (intOf i).toNat)
    case atStart => exact ⟨0, ⟨none, 0, []⟩, Nat.zero_le _, rfl, hbk0, rfl, rfl, hmine0, hfp0, Below.refl _ _⟩
    case round =>
      obtain ⟨wo, rfl⟩ : ∃ x, x = wr := ⟨wr, rfl⟩
      obtain ⟨k, S, hk, rfl, hbk, hSl, hSp, hM, hF, hW⟩ := hrel
      have hWs := hW.size
      have hWw : Below w.heap.size w wo := hT2.trans (hW.mono hBW0.size)
      have e0 := hbk.cell 0
      have e1 := hbk.cell 1
      have e2 := hbk.cell 2
      have f1 := hbk.frozen 1
      have hgl := hbk.lt
      by_cases hlt : k < n2
      · have hWW := hWw
        have ka : k < ss.length := by rw [N2.out]; exact hlt
        obtain ⟨b1, o1, rfl, l1, d⟩ := (RST.out).at hdC_len N2.out ka
        have hrs := RSS.out _ (List.getElem_mem ka)
        obtain ⟨_, h60, hrows⟩ := stOk_at HOK.out HP.out ka
        obtain ⟨Ar, cr, l, hr⟩ : ∃ Ar cr l, ss[k] = ⟨Ar, cr, l⟩ := ⟨ss[k].A, ss[k].c, ss[k].l, rfl⟩
        have HSK : Hid (∀ R : Sl (Sl Int), rowsK.pl R = l.map rowK.pl → (S.l ++ [R]).map rowsK.pl = (ss.take (k + 1)).map rowsK.pl) := fun R hR => st_push3 ka hSp.out (by rw [hr]; exact hR)
        have h60' : ss[k].l.length ≤ 60 := h60
        have hrows2 : ∀ j (h : j < l.length), RowOk cs l[j].l := by
          have h9 : ∀ j (h : j < ss[k].l.length), RowOk cs ss[k].l[j].l := hrows
          rw [hr] at h9
          exact h9
        rw [hr] at hrs d h60'
        have h60'' : l.length ≤ 60 := h60'
        have dw : w.cell? ⟨b1, o1 + k, none⟩ = some (.slice Ar l.length cr) := by simpa [hdC, Sl.val] using d 0 _ rfl
        obtain ⟨q, hq⟩ : ∃ q, l.length = q := ⟨_, rfl⟩
        have rm : Rd w Ar l.length 1 (rowOf hdC l) := hrs.1
        have rm2 : ∀ a ∈ l, rowK.rd w a := hrs.2
        rw [hq] at rm dw h60''
        have RM := Lib.hid rm
        have RM2 := Lib.hid rm2
        have LQ := Lib.hid hq
        have HROW := Lib.hid hrows2
        have DW := Lib.hid dw
        have hk0 : (0 : Int) ≤ (k : Int) := by omega
        have hkn : (k : Int) < (n2 : Int) := by omega
        clear d hr hrs hrows hrows2 hq rm rm2 h60 h60'
        have d0 : wo.cell? ⟨b1, o1 + k, none⟩ = some (.slice Ar q cr) := (hWw.cell (p := ⟨b1, o1 + k, none⟩) l1).trans DW.out
        have l1o : b1 < wo.heap.size := Nat.lt_of_lt_of_le l1 hWw.size
        have hI0 : Hid (Bk ((wo.alloc (.cells #[.slice Ar q cr] 76)).alloc (.cells #[.slice none 0 0] 76)) (wo.heap.size + 1) 76 #[.slice none 0 0]) := Bk.new1 wo _ _ _
        have hBi : Below wo.heap.size wo ((wo.alloc (.cells #[.slice Ar q cr] 76)).alloc (.cells #[.slice none 0 0] 76)) := ((Below.refl _ _).alloc (Nat.le_refl _) _).alloc (by simp) _
        go_wp2_with fail
        clear d0
        go_loopw [26] (fun i wr => ∃ (j : Nat) (R : Sl (Sl Int)), j ≤ q ∧ i = .int .i64 (j : Int) ∧ Bk wr (wo.heap.size + 1) 76 #[.slice R.A j R.c] ∧ Hid (R.l.length = j) ∧ Hid (rowsK.pl R = (l.take j).map rowK.pl) ∧ Hid (Mine rowsK wr (wo.heap.size + 1 + 1) wr.heap.size R) ∧ Below wo.heap.size ((wo.alloc (.cells #[.slice Ar q cr] 76)).alloc (.cells #[.slice none 0 0] 76)) wr) (fun i _ => q - (intOf i).toNat)
        case atStart => exact ⟨0, ⟨none, 0, []⟩, Nat.zero_le _, rfl, hI0.out, rfl, rfl, Mine.nil rowK 76 _ _ _, Below.refl _ _⟩
        case round =>
          obtain ⟨j, R, hj, rfl, hbk2, HRL, HRP, HMR, hB2i⟩ := hrel
          have hBs := hB2i.size
          simp only [World.size_alloc] at hBs
          have hB0 : Below wo.heap.size wo wr := hBi.trans hB2i
          have hWr : Below w.heap.size w wr := hWw.trans (hB0.mono hWw.size)
          obtain ⟨i0, j0⟩ := bk1 hbk2
          have hgl2 := hbk2.lt
          by_cases hjlt : j < q
          · have hWW2 := hWr
            have kj : j < l.length := by rw [LQ.out]; exact hjlt
            obtain ⟨b2, o2, rfl, l2, d2⟩ := (RM.out).at hdC_len LQ.out kj
            have hrr := RM2.out _ (List.getElem_mem kj)
            have hrow := (HROW.out j kj).1
            have HNXT : Hid (∀ (y : Sl Int) (A : Option Addr) (c : Nat), y.l = l[j].l → rowsK.pl ⟨A, c, R.l ++ [y]⟩ = (l.take (j + 1)).map rowK.pl) := fun y A c hy => rows_push3 kj HRP.out hy
            obtain ⟨A3', c3', r, hr⟩ : ∃ A3 c3 r, l[j] = ⟨A3, c3, r⟩ := ⟨l[j].A, l[j].c, l[j].l, rfl⟩
            rw [hr] at hrr hrow d2 HNXT
            have hrl : r.length = n1 := by rw [← N1.out]; exact hrow
            have d3w : w.cell? ⟨b2, o2 + j, none⟩ = some (.slice A3' r.length c3') := by simpa [hdC, Sl.val] using d2 0 _ rfl
            have hrd : Rd w A3' r.length 1 (rowOf iC r) := hrr.1
            rw [hrl] at d3w hrd
            have HRD := Lib.hid hrd
            have HRLN := Lib.hid hrl
            have d3 : wr.cell? ⟨b2, o2 + j, none⟩ = some (.slice A3' n1 c3') := (hWr.cell (p := ⟨b2, o2 + j, none⟩) l2).trans d3w
            have l2r : b2 < wr.heap.size := Nat.lt_of_lt_of_le l2 hWr.size
            obtain ⟨vr, hvr⟩ : ∃ v, Value.slice R.A j R.c = v := ⟨_, rfl⟩
            have HRVV : Hid (R.val = vr) := by rw [Hid, ← hvr, ← HRL.out]; rfl
            have HIR : Hid (∀ b, vr.ownBlock = some b → wo.heap.size + 1 + 1 ≤ b ∧ b < wr.heap.size) := fun b hb => HMR.out.rng b (Kd.fp_top (s := R) (by rw [HRVV.out]; exact hb))
            rw [hvr] at hbk2 i0
            have hj0 : (0 : Int) ≤ (j : Int) := by omega
            have hjn : (j : Int) < (q : Int) := by omega
            clear hr hrr hrow d2 hrl d3w hrd hvr
            go_wp2_with fail
            refine wp_region_held_drew (S := (fun w' => (∀ kb ko, kb < wr.heap.size → ¬ vr.ownBlock = some kb → ¬ kb = wo.heap.size + 1 → w'.cell? ⟨kb, ko, none⟩ = wr.cell? ⟨kb, ko, none⟩) ∧ wr.heap.size ≤ w'.heap.size ∧ Below (wo.heap.size + 1) wr w')) (by kernel_rfl) ?_ (fun hHeld => ?_)
            · (try dsimp only); exact S2.mk ((Below.refl _ _).drew) (by omega)
            first | (refine take_on (i := 0) (v := ?_) rfl (by kernel_rfl) (by kernel_rfl) (by kernel_rfl) (fun _ _ _ h => h) rfl ?_ (by assumption) ?_; rotate_left; · (intro w' hSw; (try dsimp only at hSw); go_simp; (try with_reducible rfl))) | (refine take_off (i := 0) rfl (by kernel_rfl) (by kernel_rfl) (by kernel_rfl) (fun _ _ _ h => h) rfl (by assumption) ?_)
            (try simp only [Act.put, List.setIfInBounds_toArray, List.set_cons_zero, List.set_cons_succ])
            first | (refine take_on (i := 2) (v := ?_) rfl (by kernel_rfl) (by kernel_rfl) (by kernel_rfl) (fun _ _ _ h => h) rfl ?_ (by assumption) ?_; rotate_left; · (intro w' hSw; (try dsimp only at hSw); go_simp; (try with_reducible rfl))) | (refine take_off (i := 2) rfl (by kernel_rfl) (by kernel_rfl) (by kernel_rfl) (fun _ _ _ h => h) rfl (by assumption) ?_)
            (try simp only [Act.put, List.setIfInBounds_toArray, List.set_cons_zero, List.set_cons_succ])
            refine wpAnyH_ready (rs := [1, 3]) (by kernel_rfl) (by simp) ?_
            refine AllReadyH.cons rfl (fun K hK => ?_) (AllReadyH.cons rfl (fun K hK => ?_) (AllReadyH.nil))
            · rw [if_pos (by rfl)]
              go_simp
              refine hK.out _ _ ?_ (fun hHeld2 => ?_)
              · (try dsimp only); exact hHeld
              clear hK K hHeld; have hHeld := hHeld2; clear hHeld2; (try simp only [Act.put, List.setIfInBounds_toArray, List.set_cons_zero, List.set_cons_succ])
              refine wpAnyH_ready (rs := [3]) (by kernel_rfl) (by simp) ?_
              refine AllReadyH.cons rfl (fun K hK => ?_) AllReadyH.nil
              rw [if_pos (by rfl)]
              go_simp
              go_at_call 53
              refine (cloneI_any A3' n1 c3' r _ (HRD.out.below (by have h9 := hWr; go_grown)) HRLN.out h01 (by omega)).mono ?_
              rintro e w4 ⟨A4, c4, rfl, hown4, hb4⟩
              (try simp only [World.size_drew] at hown4)
              have hB4 : Below wr.heap.size wr w4 := Below.next (by go_grown) hb4
              have hz4 := hB4.size
              have HM4 : Hid (Mine rowsK w4 (wo.heap.size + 1 + 1) wr.heap.size R) := HMR.out.next rowsK_ok hB4
              have HO4 : Hid (Own hdC 78 1 w4 0 vr R.l) := by rw [← HRVV.out]; exact HM4.out.own.1
              have hbk4 : Bk w4 (wo.heap.size + 1) 76 #[vr] := hbk2.next hB4
              obtain ⟨e4, f4⟩ := bk1 hbk4
              have hgl4 := hbk4.lt
              obtain ⟨y9, hy9⟩ : ∃ t : Sl Int, t = ⟨A4, c4, r⟩ := ⟨_, rfl⟩
              have HYV : Hid (y9.val = .slice A4 n1 c4) := by rw [Hid, hy9, ← HRLN.out]; rfl
              have HYL : Hid (y9.l = r) := by rw [Hid, hy9]
              have HMY : Hid (Mine rowK w4 wr.heap.size w4.heap.size y9) := by rw [hy9]; exact Mine.of_own0 hown4 HRLN.out
              clear hy9 hown4 hb4
              refine hK.out _ _ ?_ (fun hHeld2 => ?_)
              · (try dsimp only); exact S2.mk hB4 (by omega)
              clear hK K hHeld; have hHeld := hHeld2; clear hHeld2; (try simp only [Act.put, List.setIfInBounds_toArray, List.set_cons_zero, List.set_cons_succ])
              refine wpAnyH_ready (rs := [4]) (by kernel_rfl) (by simp) ?_
              refine AllReadyH.cons rfl (fun K hK => ?_) AllReadyH.nil
              rw [if_pos (by rfl)]
              go_simp
              refine hK.out _ _ ?_ (fun hHeld2 => ?_)
              · (try dsimp only); exact S2.mk (hB4.alloc (by omega) _) (by omega)
              clear hK K hHeld; have hHeld := hHeld2; clear hHeld2; (try simp only [Act.put, List.setIfInBounds_toArray, List.set_cons_zero, List.set_cons_succ])
              refine wpAnyH_ready (rs := [5]) (by kernel_rfl) (by simp) ?_
              refine AllReadyH.cons rfl (fun K hK => ?_) AllReadyH.nil
              refine step_push elem_row (by rfl) (.tmp 31) (.tmp 34) 69 (by rfl) Try.underlying69 0 vr R.l y9 (by rfl) (HO4.out.alloc _) j HRL.out w4.heap.size 1 (by rfl) (fun i u hu => ((Bk.new w4 #[.slice A4 n1 c4] 78).cell i).trans (by have h1 := HYV.out; unfold hdC at hu; rw [h1] at hu; simpa using hu)) (by unfold maxLen; omega) (by omega) (by simp only [World.size_drew, World.size_alloc]; omega) ?_
              intro g5 cap5 w5 hown5 hgrow5 hat5 hlt5 hkeep5
              have hbk5 : Bk w5 (wo.heap.size + 1) 76 #[vr] := (hgrow5.block _ (by simp only [World.size_drew, World.size_alloc]; omega) (fun e => by have h2 := HIR.out _ e.symm; omega)).trans (hbk4.alloc _)
              obtain ⟨e5', f5⟩ := bk1 hbk5
              have hz5 := hgrow5.size
              simp only [World.size_drew, World.size_alloc] at hz5
              have hgl5 := hbk5.lt
              refine hK.out _ _ ?_ (fun hHeld2 => ?_)
              · (try dsimp only); exact S2.push hHeld hgrow5 (fun k hk => by have h2 := HIR.out k hk; omega) (by simp only [World.size_drew, World.size_alloc]; omega)
              clear hK K hHeld; have hHeld := hHeld2; clear hHeld2; (try simp only [Act.put, List.setIfInBounds_toArray, List.set_cons_zero, List.set_cons_succ])
              first | (refine take_on (i := 6) (v := ?_) rfl (by kernel_rfl) (by kernel_rfl) (by kernel_rfl) (fun _ _ _ h => h) rfl ?_ (by assumption) ?_; rotate_left; · (intro w' hSw; (try dsimp only at hSw); go_simp; (try with_reducible rfl))) | (refine take_off (i := 6) rfl (by kernel_rfl) (by kernel_rfl) (by kernel_rfl) (fun _ _ _ h => h) rfl (by assumption) ?_)
              (try simp only [Act.put, List.setIfInBounds_toArray, List.set_cons_zero, List.set_cons_succ])
              refine wpAnyH_ready (rs := [7]) (by kernel_rfl) (by simp) ?_
              refine AllReadyH.cons rfl (fun K hK => ?_) AllReadyH.nil
              rw [if_pos (by rfl)]
              go_simp
              refine hK.out _ _ ?_ (fun hHeld2 => ?_)
              · (try dsimp only); exact S2.store hHeld _
              clear hK K hHeld; have hHeld := hHeld2; clear hHeld2; (try simp only [Act.put, List.setIfInBounds_toArray, List.set_cons_zero, List.set_cons_succ])
              refine wpAnyH_done (by kernel_rfl) ?_ _
              have hS := hHeld.2.2
              clear hHeld
              go_wp2_with fail
              go_roundw
              case rel =>
                have hg5 := hgrow5
                rw [← HRVV.out] at hg5
                have ha5 := hat5
                rw [← HRVV.out] at ha5
                have hpush := Mine.push rowK_ok (T := 76) (g := g5) (cap := cap5) (B := 0) (wi := w4) HM4.out HMY.out (by omega) (by omega) (by go_grown) hg5 ha5 hlt5 (by rw [HRL.out]; exact hown5)
                have hfin := hpush.chg rowsK_ok (ChgF.setCell w5 (wo.heap.size + 1) 0 (.slice (some ⟨g5, 0, none⟩) (j + 1) cap5)) (fun b hb hm => by have := hpush.rng b hb; simp at hm; omega)
                refine ⟨j + 1, ⟨some ⟨g5, 0, none⟩, cap5, R.l ++ [y9]⟩, by omega, by go_num, bk1_put hbk5, by simp [Hid, HRL.out], HNXT.out y9 _ _ HYL.out, ?_, hB2i.trans (hS.mono (by omega))⟩
                have hsz : (w5.setCell ⟨wo.heap.size + 1, 0, none⟩ (.slice (some ⟨g5, 0, none⟩) (j + 1) cap5)).heap.size = w5.heap.size := by simp [World.setCell]
                rw [Hid, hsz]; exact hfin
              case measure => (simp [intOf]; try omega)
            · rw [if_pos (by rfl)]
              go_simp
              go_at_call 53
              refine (cloneI_any A3' n1 c3' r _ (HRD.out.below (by have h9 := hWr; go_grown)) HRLN.out h01 (by omega)).mono ?_
              rintro e w4 ⟨A4, c4, rfl, hown4, hb4⟩
              (try simp only [World.size_drew] at hown4)
              have hB4 : Below wr.heap.size wr w4 := Below.next (by go_grown) hb4
              have hz4 := hB4.size
              have HM4 : Hid (Mine rowsK w4 (wo.heap.size + 1 + 1) wr.heap.size R) := HMR.out.next rowsK_ok hB4
              have HO4 : Hid (Own hdC 78 1 w4 0 vr R.l) := by rw [← HRVV.out]; exact HM4.out.own.1
              have hbk4 : Bk w4 (wo.heap.size + 1) 76 #[vr] := hbk2.next hB4
              obtain ⟨e4, f4⟩ := bk1 hbk4
              have hgl4 := hbk4.lt
              obtain ⟨y9, hy9⟩ : ∃ t : Sl Int, t = ⟨A4, c4, r⟩ := ⟨_, rfl⟩
              have HYV : Hid (y9.val = .slice A4 n1 c4) := by rw [Hid, hy9, ← HRLN.out]; rfl
              have HYL : Hid (y9.l = r) := by rw [Hid, hy9]
              have HMY : Hid (Mine rowK w4 wr.heap.size w4.heap.size y9) := by rw [hy9]; exact Mine.of_own0 hown4 HRLN.out
              clear hy9 hown4 hb4
              refine hK.out _ _ ?_ (fun hHeld2 => ?_)
              · (try dsimp only); exact S2.mk hB4 (by omega)
              clear hK K hHeld; have hHeld := hHeld2; clear hHeld2; (try simp only [Act.put, List.setIfInBounds_toArray, List.set_cons_zero, List.set_cons_succ])
              refine wpAnyH_ready (rs := [1, 4]) (by kernel_rfl) (by simp) ?_
              refine AllReadyH.cons rfl (fun K hK => ?_) (AllReadyH.cons rfl (fun K hK => ?_) (AllReadyH.nil))
              · rw [if_pos (by rfl)]
                go_simp
                refine hK.out _ _ ?_ (fun hHeld2 => ?_)
                · (try dsimp only); exact hHeld
                clear hK K hHeld; have hHeld := hHeld2; clear hHeld2; (try simp only [Act.put, List.setIfInBounds_toArray, List.set_cons_zero, List.set_cons_succ])
                refine wpAnyH_ready (rs := [4]) (by kernel_rfl) (by simp) ?_
                refine AllReadyH.cons rfl (fun K hK => ?_) AllReadyH.nil
                rw [if_pos (by rfl)]
                go_simp
                refine hK.out _ _ ?_ (fun hHeld2 => ?_)
                · (try dsimp only); exact S2.mk (hB4.alloc (by omega) _) (by omega)
                clear hK K hHeld; have hHeld := hHeld2; clear hHeld2; (try simp only [Act.put, List.setIfInBounds_toArray, List.set_cons_zero, List.set_cons_succ])
                refine wpAnyH_ready (rs := [5]) (by kernel_rfl) (by simp) ?_
                refine AllReadyH.cons rfl (fun K hK => ?_) AllReadyH.nil
                refine step_push elem_row (by rfl) (.tmp 31) (.tmp 34) 69 (by rfl) Try.underlying69 0 vr R.l y9 (by rfl) (HO4.out.alloc _) j HRL.out w4.heap.size 1 (by rfl) (fun i u hu => ((Bk.new w4 #[.slice A4 n1 c4] 78).cell i).trans (by have h1 := HYV.out; unfold hdC at hu; rw [h1] at hu; simpa using hu)) (by unfold maxLen; omega) (by omega) (by simp only [World.size_drew, World.size_alloc]; omega) ?_
                intro g5 cap5 w5 hown5 hgrow5 hat5 hlt5 hkeep5
                have hbk5 : Bk w5 (wo.heap.size + 1) 76 #[vr] := (hgrow5.block _ (by simp only [World.size_drew, World.size_alloc]; omega) (fun e => by have h2 := HIR.out _ e.symm; omega)).trans (hbk4.alloc _)
                obtain ⟨e5', f5⟩ := bk1 hbk5
                have hz5 := hgrow5.size
                simp only [World.size_drew, World.size_alloc] at hz5
                have hgl5 := hbk5.lt
                refine hK.out _ _ ?_ (fun hHeld2 => ?_)
                · (try dsimp only); exact S2.push hHeld hgrow5 (fun k hk => by have h2 := HIR.out k hk; omega) (by simp only [World.size_drew, World.size_alloc]; omega)
                clear hK K hHeld; have hHeld := hHeld2; clear hHeld2; (try simp only [Act.put, List.setIfInBounds_toArray, List.set_cons_zero, List.set_cons_succ])
                first | (refine take_on (i := 6) (v := ?_) rfl (by kernel_rfl) (by kernel_rfl) (by kernel_rfl) (fun _ _ _ h => h) rfl ?_ (by assumption) ?_; rotate_left; · (intro w' hSw; (try dsimp only at hSw); go_simp; (try with_reducible rfl))) | (refine take_off (i := 6) rfl (by kernel_rfl) (by kernel_rfl) (by kernel_rfl) (fun _ _ _ h => h) rfl (by assumption) ?_)
                (try simp only [Act.put, List.setIfInBounds_toArray, List.set_cons_zero, List.set_cons_succ])
                refine wpAnyH_ready (rs := [7]) (by kernel_rfl) (by simp) ?_
                refine AllReadyH.cons rfl (fun K hK => ?_) AllReadyH.nil
                rw [if_pos (by rfl)]
                go_simp
                refine hK.out _ _ ?_ (fun hHeld2 => ?_)
                · (try dsimp only); exact S2.store hHeld _
                clear hK K hHeld; have hHeld := hHeld2; clear hHeld2; (try simp only [Act.put, List.setIfInBounds_toArray, List.set_cons_zero, List.set_cons_succ])
                refine wpAnyH_done (by kernel_rfl) ?_ _
                have hS := hHeld.2.2
                clear hHeld
                go_wp2_with fail
                go_roundw
                case rel =>
                  have hg5 := hgrow5
                  rw [← HRVV.out] at hg5
                  have ha5 := hat5
                  rw [← HRVV.out] at ha5
                  have hpush := Mine.push rowK_ok (T := 76) (g := g5) (cap := cap5) (B := 0) (wi := w4) HM4.out HMY.out (by omega) (by omega) (by go_grown) hg5 ha5 hlt5 (by rw [HRL.out]; exact hown5)
                  have hfin := hpush.chg rowsK_ok (ChgF.setCell w5 (wo.heap.size + 1) 0 (.slice (some ⟨g5, 0, none⟩) (j + 1) cap5)) (fun b hb hm => by have := hpush.rng b hb; simp at hm; omega)
                  refine ⟨j + 1, ⟨some ⟨g5, 0, none⟩, cap5, R.l ++ [y9]⟩, by omega, by go_num, bk1_put hbk5, by simp [Hid, HRL.out], HNXT.out y9 _ _ HYL.out, ?_, hB2i.trans (hS.mono (by omega))⟩
                  have hsz : (w5.setCell ⟨wo.heap.size + 1, 0, none⟩ (.slice (some ⟨g5, 0, none⟩) (j + 1) cap5)).heap.size = w5.heap.size := by simp [World.setCell]
                  rw [Hid, hsz]; exact hfin
                case measure => (simp [intOf]; try omega)
              · rw [if_pos (by rfl)]
                go_simp
                refine hK.out _ _ ?_ (fun hHeld2 => ?_)
                · (try dsimp only); exact S2.mk (hB4.alloc (by omega) _) (by omega)
                clear hK K hHeld; have hHeld := hHeld2; clear hHeld2; (try simp only [Act.put, List.setIfInBounds_toArray, List.set_cons_zero, List.set_cons_succ])
                refine wpAnyH_ready (rs := [1]) (by kernel_rfl) (by simp) ?_
                refine AllReadyH.cons rfl (fun K hK => ?_) AllReadyH.nil
                rw [if_pos (by rfl)]
                go_simp
                refine hK.out _ _ ?_ (fun hHeld2 => ?_)
                · (try dsimp only); exact hHeld
                clear hK K hHeld; have hHeld := hHeld2; clear hHeld2; (try simp only [Act.put, List.setIfInBounds_toArray, List.set_cons_zero, List.set_cons_succ])
                refine wpAnyH_ready (rs := [5]) (by kernel_rfl) (by simp) ?_
                refine AllReadyH.cons rfl (fun K hK => ?_) AllReadyH.nil
                refine step_push elem_row (by rfl) (.tmp 31) (.tmp 34) 69 (by rfl) Try.underlying69 0 vr R.l y9 (by rfl) (HO4.out.alloc _) j HRL.out w4.heap.size 1 (by rfl) (fun i u hu => ((Bk.new w4 #[.slice A4 n1 c4] 78).cell i).trans (by have h1 := HYV.out; unfold hdC at hu; rw [h1] at hu; simpa using hu)) (by unfold maxLen; omega) (by omega) (by simp only [World.size_drew, World.size_alloc]; omega) ?_
                intro g5 cap5 w5 hown5 hgrow5 hat5 hlt5 hkeep5
                have hbk5 : Bk w5 (wo.heap.size + 1) 76 #[vr] := (hgrow5.block _ (by simp only [World.size_drew, World.size_alloc]; omega) (fun e => by have h2 := HIR.out _ e.symm; omega)).trans (hbk4.alloc _)
                obtain ⟨e5', f5⟩ := bk1 hbk5
                have hz5 := hgrow5.size
                simp only [World.size_drew, World.size_alloc] at hz5
                have hgl5 := hbk5.lt
                refine hK.out _ _ ?_ (fun hHeld2 => ?_)
                · (try dsimp only); exact S2.push hHeld hgrow5 (fun k hk => by have h2 := HIR.out k hk; omega) (by simp only [World.size_drew, World.size_alloc]; omega)
                clear hK K hHeld; have hHeld := hHeld2; clear hHeld2; (try simp only [Act.put, List.setIfInBounds_toArray, List.set_cons_zero, List.set_cons_succ])
                first | (refine take_on (i := 6) (v := ?_) rfl (by kernel_rfl) (by kernel_rfl) (by kernel_rfl) (fun _ _ _ h => h) rfl ?_ (by assumption) ?_; rotate_left; · (intro w' hSw; (try dsimp only at hSw); go_simp; (try with_reducible rfl))) | (refine take_off (i := 6) rfl (by kernel_rfl) (by kernel_rfl) (by kernel_rfl) (fun _ _ _ h => h) rfl (by assumption) ?_)
                (try simp only [Act.put, List.setIfInBounds_toArray, List.set_cons_zero, List.set_cons_succ])
                refine wpAnyH_ready (rs := [7]) (by kernel_rfl) (by simp) ?_
                refine AllReadyH.cons rfl (fun K hK => ?_) AllReadyH.nil
                rw [if_pos (by rfl)]
                go_simp
                refine hK.out _ _ ?_ (fun hHeld2 => ?_)
                · (try dsimp only); exact S2.store hHeld _
                clear hK K hHeld; have hHeld := hHeld2; clear hHeld2; (try simp only [Act.put, List.setIfInBounds_toArray, List.set_cons_zero, List.set_cons_succ])
                refine wpAnyH_done (by kernel_rfl) ?_ _
                have hS := hHeld.2.2
                clear hHeld
                go_wp2_with fail
                go_roundw
                case rel =>
                  have hg5 := hgrow5
                  rw [← HRVV.out] at hg5
                  have ha5 := hat5
                  rw [← HRVV.out] at ha5
                  have hpush := Mine.push rowK_ok (T := 76) (g := g5) (cap := cap5) (B := 0) (wi := w4) HM4.out HMY.out (by omega) (by omega) (by go_grown) hg5 ha5 hlt5 (by rw [HRL.out]; exact hown5)
                  have hfin := hpush.chg rowsK_ok (ChgF.setCell w5 (wo.heap.size + 1) 0 (.slice (some ⟨g5, 0, none⟩) (j + 1) cap5)) (fun b hb hm => by have := hpush.rng b hb; simp at hm; omega)
                  refine ⟨j + 1, ⟨some ⟨g5, 0, none⟩, cap5, R.l ++ [y9]⟩, by omega, by go_num, bk1_put hbk5, by simp [Hid, HRL.out], HNXT.out y9 _ _ HYL.out, ?_, hB2i.trans (hS.mono (by omega))⟩
                  have hsz : (w5.setCell ⟨wo.heap.size + 1, 0, none⟩ (.slice (some ⟨g5, 0, none⟩) (j + 1) cap5)).heap.size = w5.heap.size := by simp [World.setCell]
                  rw [Hid, hsz]; exact hfin
                case measure => (simp [intOf]; try omega)
          · obtain rfl : j = q := by omega
            have HRALL : Hid (rowsK.pl R = l.map rowK.pl) := by rw [Hid, HRP.out, List.take_of_length_le (by rw [LQ.out]; exact Nat.le_refl _)]
            have hne9 : ¬ b3 = wo.heap.size + 1 := by omega
            have HRV : Hid (R.val = .slice R.A j R.c) := by rw [Hid, ← HRL.out]; rfl
            have hMw : FileMine wr W0.heap.size wo.heap.size ⟨⟨Aa, ca, cs⟩, S, ⟨Ab, cb, ns⟩⟩ := hM.out.next hB0
            have HMW := Lib.hid hMw
            have HMR2 : Hid (Mine rowsK wr wo.heap.size wr.heap.size R) := HMR.out.low (by omega) (Nat.le_refl _)
            have hbkw := hbk.next hB0
            obtain ⟨vs, hvs⟩ : ∃ v, Value.slice S.A k S.c = v := ⟨_, rfl⟩
            have HSV : Hid (Value.slice S.A S.l.length S.c = vs) := by rw [Hid, ← hvs, hSl.out]
            have HO : Hid (Own hdC 76 1 wr 0 vs S.l) := by rw [← HSV.out]; exact hMw.st.own.1
            have HI : Hid (∀ b, vs.ownBlock = some b → W0.heap.size ≤ b ∧ b < wo.heap.size) := fun b hb => hMw.st.rng b (Kd.fp_top (s := S) (by show (Value.slice S.A S.l.length S.c).ownBlock = some b; rw [HSV.out]; exact hb))
            have hvb : ¬ vs.ownBlock = some b3 := fun e => hF.out b3 (mem_fp2 (Kd.fp_top (s := S) (by show (Value.slice S.A S.l.length S.c).ownBlock = some b3; rw [HSV.out]; exact e))) rfl
            rw [hvs] at hbkw
            have HBW := Lib.hid hbkw
            have e0w := hbkw.cell 0
            have e1w := hbkw.cell 1
            have e2w := hbkw.cell 2
            have f1w := hbkw.frozen 1
            have hglw := hbkw.lt
            clear hMw hbkw hvs e0 e1 e2 f1
            go_wp2_with ((at_builtin; refine list_push elem_rows (by rfl) (.tmp 39) (.tmp 41) 32 (by rfl) Try.underlying32 0 vs S.l R (by rfl) (HO.out.alloc _) k hSl.out wr.heap.size 1 (by rfl) (fun i u hu => ((Bk.new wr #[.slice R.A j R.c] 76).cell i).trans (by have h1 := HRV.out; unfold hdC at hu; rw [h1] at hu; simpa using hu)) (by unfold maxLen; omega) (by omega) (by simp only [World.size_alloc]; omega) ?_; intro g5 cap5 w5 hown5 hgrow5 hat5 hlt5 hkeep5; have hbk5 : Bk w5 b3 35 #[.slice Aa n1 ca, vs, .slice Ab n3 cb] := (hgrow5.block _ (by simp only [World.size_alloc]; omega) (fun e => hvb e.symm)).trans (HBW.out.alloc _); have e51 := hbk5.cell 1; have f51 := hbk5.frozen 1; have hz5 := hgrow5.size; simp only [World.size_alloc] at hz5; have hgl5 := hbk5.lt))
            go_roundw
            case rel =>
              have hg5 := hgrow5
              rw [← HSV.out] at hg5
              have ha5 := hat5
              rw [← HSV.out] at ha5
              have hpush := FileMine.pushSt (g := g5) (cap := cap5) (B := 0) (wi := wr) (a := R) HMW.out HMR2.out hB0.size (by omega) (by go_grown) hg5 ha5 hlt5 (by rw [hSl.out]; exact hown5)
              have hfpN : ∀ b ∈ fileFp ⟨⟨Aa, ca, cs⟩, ⟨some ⟨g5, 0, none⟩, cap5, S.l ++ [R]⟩, ⟨Ab, cb, ns⟩⟩, b ≠ b3 := fun b hb => by
                rcases pushSt_fp (hi := wo.heap.size) (fun b hb => (HMR2.out.rng b hb).1) (by simp only [World.size_alloc, World.size_drew]; omega) ha5 hb with h1 | h1
                · exact hF.out b h1
                · omega
              have hfin := hpush.besides (ChgF.setCell w5 b3 1 (.slice (some ⟨g5, 0, none⟩) (k + 1) cap5)) (fun b hb hm => hfpN b hb (by simpa using hm))
              refine ⟨k + 1, ⟨some ⟨g5, 0, none⟩, cap5, S.l ++ [R]⟩, by omega, by go_num, by have := hbk5.put 1 (.slice (some ⟨g5, 0, none⟩) (k + 1) cap5); simpa using this, by simp [Hid, hSl.out], HSK.out R HRALL.out, ?_, hfpN, ?_⟩
              · have hsz : (w5.setCell ⟨b3, 1, none⟩ (.slice (some ⟨g5, 0, none⟩) (k + 1) cap5)).heap.size = w5.heap.size := by simp [World.setCell]
                rw [Hid, hsz]; exact hfin
              · have hG := hW.trans (hB0.mono (show W0.heap.size ≤ wo.heap.size by omega))
                have hG2 := (hG.alloc (show W0.heap.size ≤ wr.heap.size by omega) (.cells #[.slice R.A j R.c] 76)).grown hgrow5 (by simp only [World.size_alloc]; omega) (fun b hb => by have h2 := HI.out b hb; omega)
                exact hG2.setCell hwb _
            case measure => (simp [intOf]; try omega)
      · obtain rfl : k = n2 := by omega
        have hB9 : Below W0.heap.size W0 wo := hB2.trans hW
        have KRo := KR.out.next hB9
        have r0 := KRo.cell 0
        have r1 := KRo.cell 1
        have r2 := KRo.cell 2
        have s0 := KRo.frozen 0
        have s1 := KRo.frozen 1
        have s2 := KRo.frozen 2
        have hgr := KRo.lt
        have hneb : ¬ b3 = w.heap.size + 1 := by omega
        go_wp2_with fail
        refine bodyPost_ret (by simp [results, Try.results26, go_sem, *]; try rfl) rfl ?_
        refine ⟨⟨⟨Aa, ca, cs⟩, S, ⟨Ab, cb, ns⟩⟩, ?_, ?_, ?_, by have hT9 := hWw; go_grown⟩
        · show _ = Ending.returned (.agg #[.slice Aa cs.length ca, .slice S.A S.l.length S.c, .slice Ab ns.length cb])
          rw [N1.out, hSl.out, N3.out]
        · rw [← HP.out]
          show FlP.mk cs (S.l.map rowsK.pl) ns = FlP.mk cs (ss.map rowsK.pl) ns
          rw [hSp.out, List.take_of_length_le (by rw [N2.out]; exact Nat.le_refl _)]
        · have h1 := ((hM.out.set (bF := w.heap.size + 1) (o := 0) (u := .slice Aa n1 ca) (by omega)).set (bF := w.heap.size + 1) (o := 1) (u := .slice S.A k S.c) (by omega)).set (bF := w.heap.size + 1) (o := 2) (u := .slice Ab n3 cb) (by omega)
          exact h1.low (by omega) (by simp [World.setCell])
end Go.Proofs.Ytmdmjnhebbhjbaa
