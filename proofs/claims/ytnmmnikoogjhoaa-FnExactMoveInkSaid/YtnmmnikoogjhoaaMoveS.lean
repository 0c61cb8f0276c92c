/-
  An ink of one's own moved in place: the reference's.
-/
import Derived.Test.YtnmmnikoogjhoaaOwnInkS
import Derived.Test.YtnmmnikoogjhoaaMovePlain
namespace Go.Proofs.Ytnmmnikoogjhoaa
set_option linter.unusedSimpArgs false
set_option linter.unusedVariables false
set_option maxRecDepth 20000
open Go.RowKit
open Go.ChangeShapes Go.WideShapes Go.Deep Go.Joins

theorem rowOf_set {α : Type} {f : α → List Value} {size : Nat} (hf : ∀ a, (f a).length = size) {u : Value} {i : Nat} (hi : i < size) : ∀ (l : List α) (j : Nat) (h : j < l.length) (a' : α), f a' = (f l[j]).set i u → rowOf f (l.set j a') = (rowOf f l).set (j * size + i) u
  | a :: l, 0, h, a', e => by
    have e1 : rowOf f (a :: l) = f a ++ rowOf f l := rfl
    have e2 : rowOf f ((a :: l).set 0 a') = f a' ++ rowOf f l := rfl
    rw [e1, e2, e, Nat.zero_mul, Nat.zero_add, List.set_append_left _ _ (by rw [hf]; exact hi)]
    rfl
  | a :: l, j + 1, h, a', e => by
    have e1 : rowOf f (a :: l) = f a ++ rowOf f l := rfl
    have e2 : rowOf f ((a :: l).set (j + 1) a') = f a ++ rowOf f (l.set j a') := rfl
    have h' : j < l.length := by simpa using h
    rw [e1, e2, rowOf_set hf hi l j h' a' e, List.set_append_right _ _ (by rw [hf, Nat.add_mul]; omega), hf]
    rw [show (j + 1) * size + i - size = j * size + i by rw [Nat.add_mul]; omega]
/-- a cell of element j written -/
theorem Own.put {α : Type} {f : α → List Value} {E : TypeId} {size : Nat} {w : World} {base : Nat} {l : List α} {g m cap : Nat} (h : Own f E size w base (.slice (some ⟨g, 0, none⟩) m cap) l) (hf : ∀ a, (f a).length = size) {i j : Nat} (hi : i < size) (hj : j < l.length) {u : Value} {a' : α} (e : f a' = (f l[j]).set i u) :
    Own f E size (w.setCell ⟨g, j * size + i, none⟩ u) base (.slice (some ⟨g, 0, none⟩) m cap) (l.set j a') := by
  have hx := rowOf_set hf hi l j hj a' e
  rcases h.2 with ⟨h1, _⟩ | ⟨g', cap', cur, h1, hb, hg, hc, hm, hs, htk⟩
  · simp at h1
  · injection h1 with h1 h2 h3
    injection h1 with h1
    injection h1 with h1 _
    subst h1; subst h2; subst h3
    have hlen : (rowOf f l).length = l.length * size := rowOf_length hf l
    refine ⟨by rw [rowOf_length hf], .inr ⟨g, cap, cur.setIfInBounds (j * size + i) u, by rw [List.length_set], hb, ?_, by rw [List.length_set]; exact hc, hm, by simpa using hs, ?_⟩⟩
    · exact Bk.put (show Bk w g E cur from hg) _ _
    · have hlt : j * size + i < l.length * size := by
        have h4 : (j + 1) * size ≤ l.length * size := Nat.mul_le_mul_right _ hj
        rw [Nat.add_mul] at h4
        omega
      rw [hx, ← htk, List.length_set]
      simp only [Array.toList_setIfInBounds]
      rw [List.take_set]
theorem set_same {α : Type} {f : α → List Value} {l : List α} {k : Nat} (hk : k < l.length) {a' : α} (e : f a' = f l[k]) : rowOf f (l.set k a') = rowOf f l := by
  induction l generalizing k with
  | nil => simp at hk
  | cons a l ih =>
    rcases k with _ | k
    · show f a' ++ rowOf f l = f a ++ rowOf f l
      rw [e]; rfl
    · show f a ++ rowOf f (l.set k a') = f a ++ rowOf f l
      rw [ih (by simpa using hk) e]
/-- the points of one stroke turned, in its own block -/
theorem InkOwn.upd {w w' : World} {lo hi : Nat} {v : Value} {T : List St} {k : Nat} (h : InkOwn w lo hi v T) (hk : k < T.length) (t : St) (hv : t.val = T[k].val) (hg : w.grownBy w' T[k].val.ownBlock) (ho : Own ptC 72 3 w' lo t.val t.l) : InkOwn w' lo hi v (T.set k t) := by
  have hmem : ∀ s ∈ T.set k t, s = t ∨ ∃ (i : Nat) (hi : i < T.length), i ≠ k ∧ s = T[i] := fun s hs => by
    obtain ⟨i, hi, rfl⟩ := List.mem_iff_getElem.1 hs
    rw [List.length_set] at hi
    by_cases e : i = k
    · left; subst e; simp
    · exact .inr ⟨i, hi, e, by rw [List.getElem_set]; split; omega; rfl⟩
  have hval : ∀ s ∈ T.set k t, ∃ (i : Nat) (hi : i < T.length), s.val = T[i].val := fun s hs => by
    rcases hmem s hs with rfl | ⟨i, hi, _, rfl⟩
    · exact ⟨k, hk, hv⟩
    · exact ⟨i, hi, rfl⟩
  refine ⟨?_, h.top, ⟨fun s hs => ?_, fun s hs b hb => ?_, ?_⟩, fun s hs b hb => ?_⟩
  · have h1 := h.row.kept hg fun b hb e => h.apt _ (List.getElem_mem hk) b e.symm hb
    unfold Own at h1 ⊢
    rw [set_same hk (show skC t = skC T[k] by unfold skC; rw [hv]), List.length_set]
    exact h1
  · rcases hmem s hs with rfl | ⟨i, hi, hne, rfl⟩
    · exact ho
    · exact (h.inner.own _ (List.getElem_mem hi)).kept hg (apt_at h.inner.apt hi hk hne)
  · obtain ⟨i, hi, e⟩ := hval s hs
    rw [e] at hb
    exact h.inner.top _ (List.getElem_mem hi) b hb
  · refine List.pairwise_iff_getElem.2 fun i j hi hj hij => ?_
    rw [List.length_set] at hi hj
    have h1 := List.pairwise_iff_getElem.1 h.inner.apt i j hi hj hij
    have e : ∀ (i : Nat) (hi : i < (T.set k t).length) (hi2 : i < T.length), (T.set k t)[i].val = T[i].val := fun i hi hi2 => by
      rw [List.getElem_set]
      split
      · rename_i e; subst e; exact hv
      · rfl
    unfold Apt at h1 ⊢
    rw [e i _ hi, e j _ hj]
    exact h1
  · obtain ⟨i, hi, e⟩ := hval s hs
    rw [e] at hb
    exact h.apt _ (List.getElem_mem hi) b hb

/-- the first j points moved -/
def mixL (F : Pt → Pt) (l : List Pt) (j : Nat) : List Pt := (l.take j).map F ++ l.drop j
theorem mixL_zero (F : Pt → Pt) (l : List Pt) : mixL F l 0 = l := by simp [mixL]
theorem mixL_all (F : Pt → Pt) (l : List Pt) : mixL F l l.length = l.map F := by simp [mixL]
theorem mixL_len (F : Pt → Pt) (l : List Pt) (j : Nat) (h : j ≤ l.length) : (mixL F l j).length = l.length := by simp [mixL]; omega
theorem mixL_at (F : Pt → Pt) {l : List Pt} {j : Nat} (h : j < l.length) (h2 : j < (mixL F l j).length) : (mixL F l j)[j] = l[j] := by
  simp only [mixL]
  rw [List.getElem_append_right (by simp; omega)]
  simp [Nat.min_eq_left (Nat.le_of_lt h)]
theorem mixL_next (F : Pt → Pt) {l : List Pt} {j : Nat} (h : j < l.length) : (mixL F l j).set j (F l[j]) = mixL F l (j + 1) := by
  simp only [mixL]
  have e : j - ((l.take j).map F).length = 0 := by simp; omega
  rw [List.set_append_right _ _ (by simp; omega), List.take_succ_eq_append_getElem h, List.map_append, List.append_assoc, e, List.drop_eq_getElem_cons h, List.set_cons_zero]
  rfl
def mixP (F : Pt → Pt) (P : List (List Pt)) (k : Nat) : List (List Pt) := (mapP F P).take k ++ P.drop k
theorem mixP_zero (F : Pt → Pt) (P : List (List Pt)) : mixP F P 0 = P := by simp [mixP]
theorem mixP_all (F : Pt → Pt) (P : List (List Pt)) : mixP F P P.length = mapP F P := by
  simp [mixP]
  rw [List.take_of_length_le (by rw [mapP_len]; exact Nat.le_refl _)]
theorem mixP_at (F : Pt → Pt) {P : List (List Pt)} {T : List St} {k : Nat} (hT : ptsOf T = mixP F P k) (h : k < P.length) (h2 : k < T.length) : T[k].l = P[k] := by
  have h3 : (ptsOf T)[k]? = some P[k] := by
    rw [hT, mixP, List.getElem?_append_right (by simp [mapP]; omega)]
    simp [mapP, Nat.min_eq_left (Nat.le_of_lt h), List.getElem?_eq_getElem h]
  rw [ptsOf, List.getElem?_map, List.getElem?_eq_getElem h2] at h3
  simpa using h3
theorem mixP_next (F : Pt → Pt) {P : List (List Pt)} {T : List St} {k : Nat} (hT : ptsOf T = mixP F P k) (h : k < P.length) (t : St) (ht : t.l = P[k].map F) : ptsOf (T.set k t) = mixP F P (k + 1) := by
  have e : ptsOf (T.set k t) = (ptsOf T).set k t.l := by simp [ptsOf, List.map_set]
  rw [e, hT, ht]
  simp only [mixP]
  have e2 : k - ((mapP F P).take k).length = 0 := by simp [mapP]; omega
  rw [List.set_append_right _ _ (by simp [mapP]; omega), List.take_succ_eq_append_getElem (by rw [mapP_len]; exact h), List.append_assoc, e2, List.drop_eq_getElem_cons h, List.set_cons_zero]
  simp [mapP]

set_option maxHeartbeats 16000000 in
theorem l02Move_any (b o : Nat) (A : Option Addr) (n c : Nat) (S : List St) (dx dy : Int) (w : World) (hcell : w.cell? ⟨b, o, none⟩ = some (.slice A n c)) (h : InkRd w A n S) (hs : ∀ s ∈ S, 0 < s.l.length ∧ s.l.length ≤ 1048576) (hn : n ≤ 1048576) (hv : ∀ s ∈ S, ptsB s.l) (hd : 0 < n → (-4095 ≤ dx ∧ dx ≤ 4095) ∧ (-4095 ≤ dy ∧ dy ≤ 4095)) :
    Calls Try.prog 60 #[.pointer (some ⟨b, o, none⟩), .int .i64 dx, .int .i64 dy] w fun e w' => ∃ A2 c2 T, e = .returned (.agg #[.slice A2 n c2]) ∧ ptsOf T = mapP (mvP dx dy) (ptsOf S) ∧ InkOwn w' w.heap.size w'.heap.size (.slice A2 n c2) T ∧ Below w.heap.size w w' := by
  have HA := Lib.hid (h.alloc (.cells #[.slice none 0 0] 29))
  have LA := Lib.hid h.len
  clear h
  have hcb : b < w.heap.size := block_lt_of_cell hcell
  have hr0 := Bk.new w #[.slice none 0 0] 29
  go_enter Try.func60, Try.ntmps60
  go_wp2_with fail
  refine (l02Own_any b o A n c S _ (by go_simp) HA.out hs hn).mono ?_
  rintro e w2 ⟨A2, c2, T0, rfl, hp, ho, hb⟩
  have hr2 := hr0.below hb (by simp)
  have hz2 := hb.size
  simp only [World.size_alloc] at hz2
  have HO0 : Hid (InkOwn (w2.alloc (.cells #[.slice A2 n c2] 29)) (w.heap.size + 1) w2.heap.size (.slice A2 n c2) T0) := by
    simp only [World.size_alloc] at ho
    exact ho.alloc _
  have HP := Lib.hid hp
  have hT : Below w.heap.size w w2 := Below.next (by go_grown) hb
  have hL : Hid (T0.length = n) := len_of hp LA.out
  clear hp ho hb hr0
  go_wp2_with fail
  go_loopw [8] (fun i wr => ∃ (k : Nat) (T : List St), k ≤ n ∧ i = .int .i64 (k : Int) ∧ Hid (T.length = n) ∧ Hid (ptsOf T = mixP (mvP dx dy) (ptsOf S) k) ∧ Hid (InkOwn wr (w.heap.size + 1) w2.heap.size (.slice A2 n c2) T) ∧ Chg (w.heap.size + 1) w2.heap.size (w2.alloc (.cells #[.slice A2 n c2] 29)) wr) (fun i _ => n - (intOf i).toNat)
  case atStart => exact ⟨0, T0, Nat.zero_le _, rfl, hL, by rw [Hid, mixP_zero]; exact HP.out, HO0.out, Chg.refl _ _ _⟩
  case round =>
    obtain ⟨wo, rfl⟩ : ∃ wo, wo = wr := ⟨wr, rfl⟩
    obtain ⟨k, T, hk, rfl, hTl, hpt, hin, hC⟩ := hrel
    have hCs := hC.size
    simp only [World.size_alloc] at hCs
    have hvar : Bk wo w2.heap.size 29 #[.slice A2 n c2] := (hC.block _ (by simp) (.inr (Nat.le_refl _))).trans (Bk.new w2 _ _)
    obtain ⟨ev, fv⟩ := bk1 hvar
    have hvl := hvar.lt
    by_cases hlt : k < n
    · have ka : k < T.length := by have := hTl.out; omega
      have kS : k < (ptsOf S).length := by rw [ptsOf_len, LA.out]; exact hlt
      have kS2 : k < S.length := by rw [LA.out]; exact hlt
      have hlk : Hid (T[k].l = S[k].l) := by rw [Hid, mixP_at _ hpt.out kS ka, ptsOf_get S k kS kS2]
      obtain ⟨⟨hx1, hx2⟩, hy1, hy2⟩ := hd (by omega)
      have hpos := (hs _ (List.getElem_mem kS2)).1
      have hbig := (hs _ (List.getElem_mem kS2)).2
      obtain ⟨gA, cA, eA, hgA, hgA2, cc⟩ := hin.out.row.at skC_len ka
      have hownk := hin.out.inner.own _ (List.getElem_mem ka)
      have htopk := hin.out.inner.top _ (List.getElem_mem ka)
      have haptk := hin.out.apt _ (List.getElem_mem ka)
      rcases hownk.cases with ⟨_, e0⟩ | ⟨g, cap, C, eg, hgb, hbk, hcap, hcm, hCsz⟩
      · rw [hlk.out] at e0
        rw [e0] at hpos
        simp at hpos
      · have eg2 : T[k].val = .slice (some ⟨g, 0, none⟩) S[k].l.length cap := by rw [eg, hlk.out]
        have hgtop : g < w2.heap.size := htopk g (by rw [eg2]; rfl)
        injection eA with eA1 eA2 eA3
        subst eA1; subst eA3
        have hne : ¬ gA = g := fun e => haptk g (by rw [eg2]; rfl) (by rw [← e]; rfl)
        have hne2 : ¬ g = gA := fun e => hne e.symm
        have hne3 : ¬ w2.heap.size = g := by omega
        have hne4 : ¬ g = w2.heap.size := by omega
        have c1 : wo.cell? ⟨gA, k, none⟩ = some (.slice (some ⟨g, 0, none⟩) S[k].l.length cap) := by
          have := cc 0 _ rfl
          rw [eg2] at this
          simpa using this
        have HOK : Hid (Own ptC 72 3 wo (w.heap.size + 1) (.slice (some ⟨g, 0, none⟩) S[k].l.length cap) S[k].l) := by
          have h1 := hownk
          rw [eg2, hlk.out] at h1
          exact h1
        have HEG := Lib.hid eg2
        have hk0 : (0 : Int) ≤ (k : Int) := by omega
        have hkn : (k : Int) < (n : Int) := by omega
        clear hownk htopk haptk hbk cc eg eg2
        go_wp2_with fail
        go_loopw [9] (fun i wr => ∃ j : Nat, j ≤ S[k].l.length ∧ i = .int .i64 (j : Int) ∧ Own ptC 72 3 wr (w.heap.size + 1) (.slice (some ⟨g, 0, none⟩) S[k].l.length cap) (mixL (mvP dx dy) S[k].l j) ∧ wo.grownBy wr (some g)) (fun i _ => S[k].l.length - (intOf i).toNat)
        case atStart => exact ⟨0, Nat.zero_le _, rfl, by rw [mixL_zero]; exact HOK.out, grownBy_refl _ _⟩
        case round =>
          obtain ⟨j, hj, rfl, hown, hG⟩ := hrel
          have hGs := hG.size
          have ev2 : wr.cell? ⟨w2.heap.size, 0, none⟩ = some (.slice (some ⟨gA, 0, none⟩) n c2) := (hG.cell_far ⟨w2.heap.size, 0, none⟩ hvl (fun e => hne3 (by simpa using e))).trans ev
          have c2' : wr.cell? ⟨gA, k, none⟩ = some (.slice (some ⟨g, 0, none⟩) S[k].l.length cap) := (hG.cell_far ⟨gA, k, none⟩ hgA2 (fun e => hne (by simpa using e))).trans c1
          have hl1 : w2.heap.size < wr.heap.size := by omega
          have hl2 : gA < wr.heap.size := by omega
          have hl3 : g < wr.heap.size := by omega
          by_cases hjlt : j < S[k].l.length
          · have hjm : j < (mixL (mvP dx dy) S[k].l j).length := by rw [mixL_len _ _ _ hj]; exact hjlt
            obtain ⟨g', _, e5, _, _, pc⟩ := hown.at ptC_len hjm
            injection e5 with e5
            injection e5 with e5
            injection e5 with e5 _
            subst e5
            rw [mixL_at _ hjlt hjm] at pc
            have a1 : wr.cell? ⟨g, j * 3, none⟩ = some (.int .i64 S[k].l[j].x) := by simpa using pc 0 _ rfl
            have a2 : wr.cell? ⟨g, j * 3 + 1, none⟩ = some (.int .i64 S[k].l[j].y) := pc 1 _ rfl
            have a3 : wr.cell? ⟨g, j * 3 + 2, none⟩ = some (.int .i64 S[k].l[j].t) := pc 2 _ rfl
            have hf : ∀ q, wr.frozen? ⟨g, q, none⟩ = false := fun q => by
              rcases hown.cases with ⟨e6, _⟩ | ⟨g', cap', C', e6, _, hbk', _⟩
              · simp at e6
              · injection e6 with e6
                injection e6 with e6
                injection e6 with e6 _
                subst e6
                exact hbk'.frozen q
            have f1 := hf (j * 3)
            have f2 := hf (j * 3 + 1)
            obtain ⟨hp1, hp2, hp3⟩ := ptB_true (hv _ (List.getElem_mem kS2) j hjlt)
            have hj0 : (0 : Int) ≤ (j : Int) := by omega
            have hjn : (j : Int) < (S[k].l.length : Int) := by omega
            have HO := Lib.hid hown
            have HJM := Lib.hid hjm
            clear pc hf hown hjm
            go_wp2_with fail
            go_roundw
            case rel =>
              have h1 := HO.out.put ptC_len (i := 0) (j := j) (by omega) HJM.out (u := .int .i64 (S[k].l[j].x + dx)) (a' := ⟨S[k].l[j].x + dx, S[k].l[j].y, S[k].l[j].t⟩) (by rw [mixL_at _ hjlt HJM.out]; rfl)
              have h2 := h1.put ptC_len (i := 1) (j := j) (by omega) (by rw [List.length_set]; exact HJM.out) (u := .int .i64 (S[k].l[j].y + dy)) (a' := mvP dx dy S[k].l[j]) (by simp [ptC, mvP])
              rw [List.set_set, mixL_next _ hjlt] at h2
              exact ⟨j + 1, by omega, by go_num, by simpa using h2, grownBy_trans (grownBy_trans hG (grownBy_setCell _ _ _ _)) (grownBy_setCell _ _ _ _)⟩
            case measure => (simp [intOf]; try omega)
          · have ej : j = S[k].l.length := by omega
            subst ej
            have HO : Hid (Own ptC 72 3 wr (w.heap.size + 1) (.slice (some ⟨g, 0, none⟩) S[k].l.length cap) (S[k].l.map (mvP dx dy))) := by rw [mixL_all] at hown; exact hown
            clear hown
            go_wp2_with fail
            go_roundw
            case rel =>
              have hg3 : wo.grownBy wr T[k].val.ownBlock := by rw [HEG.out]; exact hG
              have hval : (St.mk (some ⟨g, 0, none⟩) cap (S[k].l.map (mvP dx dy))).val = T[k].val := by rw [HEG.out]; simp [St.val]
              refine ⟨k + 1, T.set k ⟨some ⟨g, 0, none⟩, cap, S[k].l.map (mvP dx dy)⟩, by omega, by go_num, by rw [Hid, List.length_set]; exact hTl.out, mixP_next _ hpt.out kS _ (by rw [ptsOf_get S k kS kS2]), hin.out.upd ka _ hval hg3 (by rw [hval, HEG.out]; exact HO.out), hC.trans (Chg.of_grown hg3 fun b hb => ?_)⟩
              rw [HEG.out] at hb
              have : g = b := by simpa [Value.ownBlock] using hb
              omega
            case measure => (simp [intOf]; try omega)
    · obtain rfl : k = n := by omega
      have HIN := hin
      have HRE : Hid (ptsOf T = mapP (mvP dx dy) (ptsOf S)) := by
        have h1 := hpt.out
        rw [show k = (ptsOf S).length by rw [ptsOf_len]; exact LA.out.symm, mixP_all] at h1
        exact h1
      have hr3 : Bk wo w.heap.size 29 #[.slice none 0 0] := (hC.block _ (by simp only [World.size_alloc]; omega) (.inl (by omega))).trans (hr2.alloc _)
      obtain ⟨er, fr⟩ := bk1 hr3
      have hgr := hr3.lt
      have hTT : Below w.heap.size w wo := (hT.alloc hT.size _).trans ((hC.below (by simp only [World.size_alloc]; omega)).mono (by omega))
      clear hin hr2
      go_wp2_with fail
      refine bodyPost_ret (by simp [results, Try.results60, go_sem, *]; try rfl) rfl ?_
      refine ⟨A2, c2, T, rfl, HRE.out, ?_, by go_grown⟩
      have hsz : (wo.setCell ⟨w.heap.size, 0, none⟩ (.slice A2 k c2)).heap.size = wo.heap.size := by simp [World.setCell]
      rw [hsz]
      have h1 := (HIN.out.keep fun j hj _ _ => Below.heap_setCell wo ⟨w.heap.size, 0, none⟩ (.slice A2 k c2) _ (by simp only [ne_eq]; omega)).low (show w.heap.size ≤ w.heap.size + 1 by omega)
      exact ⟨h1.row, fun b hb => by have := h1.top b hb; omega, h1.inner.mono (by omega), h1.apt⟩
end Go.Proofs.Ytnmmnikoogjhoaa
