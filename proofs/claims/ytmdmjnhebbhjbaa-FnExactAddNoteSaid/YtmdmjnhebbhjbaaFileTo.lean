/-
  A file of the law becomes one of the program.
-/
import Derived.Test.YtmdmjnhebbhjbaaFileSz
import Derived.Test.YtmdmjnhebbhjbaaIntsTo
import Derived.Test.YtmdmjnhebbhjbaaFilea
import Derived.Test.YtmdmjnhebbhjbaaFileB
import Derived.Test.YtmdmjnhebbhjbaaPtsa
namespace Go.Proofs.Ytmdmjnhebbhjbaa
set_option linter.unusedSimpArgs false
set_option linter.unusedVariables false
set_option maxRecDepth 20000
open Go.RowKit
open Go.ChangeShapes Go.WideShapes Go.ChangeAt Go.Deep Go.Joins

/-- elements of one's own, apart, in blocks from lo to hi -/
structure MineL {α β : Type} (K : Kd α β) (w : World) (lo hi : Nat) (l : List α) : Prop where
  own : ∀ a ∈ l, K.own w a
  apart : (l.flatMap K.fp).Nodup
  rng : ∀ b ∈ l.flatMap K.fp, lo ≤ b ∧ b < hi
theorem MineL.nil {α β : Type} (K : Kd α β) (w : World) (lo hi : Nat) : MineL K w lo hi [] := ⟨fun a ha => by simp at ha, by simp, fun b hb => by simp at hb⟩
theorem MineL.push {α β : Type} {K : Kd α β} {w : World} {lo hi hi2 : Nat} {l : List α} {a : α} (h : MineL K w lo hi l) (ha : Mine K w hi hi2 a) (h1 : lo ≤ hi) (h2 : hi ≤ hi2) : MineL K w lo hi2 (l ++ [a]) := by
  have e : (l ++ [a]).flatMap K.fp = l.flatMap K.fp ++ K.fp a := by simp
  refine ⟨fun x hx => ?_, ?_, fun b hb => ?_⟩
  · rcases List.mem_append.1 hx with hx | hx
    · exact h.own x hx
    · rw [List.mem_singleton] at hx
      subst hx
      exact ha.own
  · rw [e, List.nodup_append]
    exact ⟨h.apart, ha.apart, fun x hx y hy e => by have := h.rng x hx; have := ha.rng y hy; omega⟩
  · rw [e] at hb
    rcases List.mem_append.1 hb with hb | hb
    · have := h.rng b hb; omega
    · have := ha.rng b hb; omega
theorem MineL.block {α β : Type} {K : Kd α β} (hK : K.Ok) {w w' : World} {lo hi : Nat} {l : List α} (h : MineL K w lo hi l) (hb : ∀ j, lo ≤ j → j < hi → w'.heap[j]? = w.heap[j]?) : MineL K w' lo hi l :=
  ⟨fun a ha => hK.keep (h.own a ha) fun b hm => by have := h.rng b (List.mem_flatMap.2 ⟨a, ha, hm⟩); exact hb b this.1 this.2, h.apart, h.rng⟩
theorem MineL.next {α β : Type} {K : Kd α β} (hK : K.Ok) {w w' : World} {lo hi : Nat} {l : List α} (h : MineL K w lo hi l) (hb : Below w.heap.size w w') : MineL K w' lo hi l :=
  ⟨fun a ha => Kd.own_next hK (h.own a ha) hb, h.apart, h.rng⟩
theorem Mine.block {α β : Type} {K : Kd α β} (hK : K.Ok) {w w' : World} {lo hi : Nat} {a : α} (h : Mine K w lo hi a) (hb : ∀ j, lo ≤ j → j < hi → w'.heap[j]? = w.heap[j]?) : Mine K w' lo hi a :=
  ⟨hK.keep h.own fun b hm => by have := h.rng b hm; exact hb b this.1 this.2, h.apart, h.rng⟩
theorem MineL.done {α β : Type} {K : Kd α β} (hK : K.Ok) {T : TypeId} {w : World} {g lo hi n : Nat} {l : List α} (h : MineL K w (g + 1) hi l) (hb : Bk w g K.E (rowOf K.cell l).toArray) (hl : l.length = n) (hm : n ≤ maxLen) (hlo : lo ≤ g) (hhi : g < hi) :
    Mine (K.sl T) w lo hi ⟨some ⟨g, 0, none⟩, n, l⟩ := by
  subst hl
  have hfp : (K.sl T).fp ⟨some ⟨g, 0, none⟩, l.length, l⟩ = g :: l.flatMap K.fp := by
    show (Value.slice (some ⟨g, 0, none⟩) l.length l.length).ownBlock.toList ++ l.flatMap K.fp = _
    simp [Value.ownBlock]
  refine ⟨⟨Own.of_bk hb hK.len hm (Nat.zero_le _), h.own⟩, ?_, fun b hm2 => ?_⟩
  · rw [hfp, List.nodup_cons]
    exact ⟨fun hx => by have := h.rng g hx; omega, h.apart⟩
  · rw [hfp, List.mem_cons] at hm2
    rcases hm2 with rfl | hm2
    · omega
    · have := h.rng b hm2; omega
theorem row_info : (Try.prog.info? 78).map (fun i => (i.zero, i.size, i.bytes)) = some (some (.slice none 0 0), 1, 24) := by kernel_rfl
theorem rows_info : (Try.prog.info? 76).map (fun i => (i.zero, i.size, i.bytes)) = some (some (.agg #[.slice none 0 0]), 1, 24) := by kernel_rfl
theorem toChannel_any (c : Ch) (w : World) :
    Calls Try.prog 45 #[.agg #[.string c.name, .string c.unit, .int .i64 c.low, .int .i64 c.high]] w fun e w' => e = .returned (.agg #[.string c.name, .string c.unit, .int .i64 c.low, .int .i64 c.high]) ∧ Below w.heap.size w w' := by
  go_enter Try.func45, Try.ntmps45
  go_wp2
  go_returns
  exact ⟨rfl, by go_grown⟩
theorem toNote_any (n : No) (w : World) :
    Calls Try.prog 8 #[.agg #[.int .i64 n.fr, .int .i64 n.til, .string n.text]] w fun e w' => e = .returned (.agg #[.int .i64 n.fr, .int .i64 n.til, .string n.text]) ∧ Below w.heap.size w w' := by
  go_enter Try.func8, Try.ntmps8
  go_wp2
  go_returns
  exact ⟨rfl, by go_grown⟩
theorem toRow_any (s : Sl Int) (w : World) (h : rowK.rd w s) (hn : s.l.length ≤ 1048576) :
    Calls Try.prog 70 #[.slice s.A s.l.length s.c] w fun e w' => ∃ (g : Nat) (t : Sl Int), e = .returned (.slice (some ⟨g, 0, none⟩) s.l.length s.l.length) ∧ t.val = .slice (some ⟨g, 0, none⟩) s.l.length s.l.length ∧ rowK.pl t = rowK.pl s ∧ Mine rowK w' w.heap.size w'.heap.size t ∧ Below w.heap.size w w' := by
  refine (toInt64S_any s.A s.l.length s.c s.l w h.1 rfl hn).mono ?_
  rintro e w' ⟨g, rfl, hg, hk, hb⟩
  exact ⟨g, ⟨some ⟨g, 0, none⟩, s.l.length, s.l⟩, rfl, rfl, rfl, Mine.fresh iC_len hk (by unfold maxLen; omega) hg hk.lt, hb⟩

set_option maxHeartbeats 4000000 in
theorem toChannelS_any (s : Sl Ch) (w : World) (h : Rd w s.A s.l.length 4 (rowOf chC s.l)) (hn : s.l.length ≤ 1048576) :
    Calls Try.prog 20 #[.slice s.A s.l.length s.c] w fun e w' => ∃ (g : Nat) (t : Sl Ch), e = .returned (.slice (some ⟨g, 0, none⟩) s.l.length s.l.length) ∧ t.val = .slice (some ⟨g, 0, none⟩) s.l.length s.l.length ∧ t.l = s.l ∧ Mine chsK w' w.heap.size w'.heap.size t ∧ Below w.heap.size w w' := by
  obtain ⟨A, c, l⟩ := s
  obtain ⟨n, ll⟩ : ∃ n, l.length = n := ⟨_, rfl⟩
  simp only [] at h hn ⊢
  rw [ll] at h hn
  rw [ll]
  obtain ⟨i0, hi0, hz0, hz1, hz2⟩ := info_parts ch_info
  have hmk := make_rows (P := Try.prog) 31 74 i0 _ Try.underlying31 hi0 hz0 .i64 .i64 n (by rw [hz2]; omega) (by omega)
  rw [hz1] at hmk
  have HA := Lib.hid h
  have LA := Lib.hid ll
  clear h ll
  go_enter Try.func20, Try.ntmps20
  go_wp2_with fail
  go_loopw [4] (fun i wr => ∃ (k : Nat) (C : Array Value), k ≤ n ∧ i = .int .i64 k ∧ Hid (C.size = n * 4) ∧ Hid (Filled chC C l k) ∧ Bk wr w.heap.size 74 C ∧ Below w.heap.size w wr) (fun i _ => n - (intOf i).toNat)
  case atStart => exact ⟨0, _, Nat.zero_le _, rfl, size_madeCells _ _, Filled.zero _ _ _, heap_alloc_new w _, by go_grown⟩
  case round =>
    obtain ⟨k, C, hk, rfl, hC, hfill, hbk, hW⟩ := hrel
    by_cases hlt : k < n
    · have ka : k < l.length := by have := LA.out; omega
      obtain ⟨b1, o1, rfl, l1, c0⟩ := (HA.out.below hW).at chC_len LA.out ka
      have c1 : wr.cell? ⟨b1, o1 + k * 4, none⟩ = some (.string l[k].name) := c0 0 _ rfl
      have c2 : wr.cell? ⟨b1, o1 + k * 4 + 1, none⟩ = some (.string l[k].unit) := c0 1 _ rfl
      have c3 : wr.cell? ⟨b1, o1 + k * 4 + 2, none⟩ = some (.int .i64 l[k].low) := c0 2 _ rfl
      have c4 : wr.cell? ⟨b1, o1 + k * 4 + 3, none⟩ = some (.int .i64 l[k].high) := c0 3 _ rfl
      clear c0
      go_wp2_with fail
      refine (toChannel_any l[k] _).mono ?_
      rintro e w2 ⟨rfl, hb2⟩
      have hbk2 := hbk.below hb2 hbk.lt
      have d1 := hbk2.cell (k * 4)
      have d2 := hbk2.cell (k * 4 + 1)
      have d3 := hbk2.cell (k * 4 + 2)
      have d4 := hbk2.cell (k * 4 + 3)
      rw [Array.getElem?_eq_getElem (by have := hC.out; omega)] at d1 d2 d3 d4
      have f1 := hbk2.frozen (k * 4)
      have f2 := hbk2.frozen (k * 4 + 1)
      have f3 := hbk2.frozen (k * 4 + 2)
      have f4 := hbk2.frozen (k * 4 + 3)
      go_wp2_with fail
      go_roundw
      case rel => exact ⟨k + 1, _, by omega, by go_num, by simpa [Hid] using hC.out, (hfill.out.set4 chC_len ka (by rw [LA.out]; have := hC.out; omega) rfl), (((hbk2.put _ _).put _ _).put _ _).put _ _, by have := hW.trans (hb2.mono (Nat.le_of_lt hbk.lt)); go_grown⟩
      case measure => simp [intOf]; omega
    · have e : C = (rowOf chC l).toArray := hfill.out.done chC_len (by rw [LA.out]; omega) (by rw [LA.out]; exact hC.out)
      subst e
      go_wp2_with fail
      go_ret
      refine ⟨_, ⟨some ⟨w.heap.size, 0, none⟩, n, l⟩, rfl, by show Value.slice _ l.length n = _; rw [LA.out], rfl, ?_, hW⟩
      have hm : Mine ((Kd.flat chC 4 74).sl 0) wr w.heap.size wr.heap.size ⟨some ⟨w.heap.size, 0, none⟩, l.length, l⟩ := Mine.fresh chC_len hbk (by rw [LA.out]; unfold maxLen; omega) (Nat.le_refl _) hbk.lt
      rw [LA.out] at hm
      exact hm

set_option maxHeartbeats 4000000 in
theorem toNoteS_any (s : Sl No) (w : World) (h : Rd w s.A s.l.length 3 (rowOf noC s.l)) (hn : s.l.length ≤ 1048576) :
    Calls Try.prog 22 #[.slice s.A s.l.length s.c] w fun e w' => ∃ (g : Nat) (t : Sl No), e = .returned (.slice (some ⟨g, 0, none⟩) s.l.length s.l.length) ∧ t.val = .slice (some ⟨g, 0, none⟩) s.l.length s.l.length ∧ t.l = s.l ∧ Mine nosK w' w.heap.size w'.heap.size t ∧ Below w.heap.size w w' := by
  obtain ⟨A, c, l⟩ := s
  obtain ⟨n, ll⟩ : ∃ n, l.length = n := ⟨_, rfl⟩
  simp only [] at h hn ⊢
  rw [ll] at h hn
  rw [ll]
  obtain ⟨i0, hi0, hz0, hz1, hz2⟩ := info_parts no_info
  have hmk := make_rows (P := Try.prog) 33 39 i0 _ Try.underlying33 hi0 hz0 .i64 .i64 n (by rw [hz2]; omega) (by omega)
  rw [hz1] at hmk
  have HA := Lib.hid h
  have LA := Lib.hid ll
  clear h ll
  go_enter Try.func22, Try.ntmps22
  go_wp2_with fail
  go_loopw [4] (fun i wr => ∃ (k : Nat) (C : Array Value), k ≤ n ∧ i = .int .i64 k ∧ Hid (C.size = n * 3) ∧ Hid (Filled noC C l k) ∧ Bk wr w.heap.size 39 C ∧ Below w.heap.size w wr) (fun i _ => n - (intOf i).toNat)
  case atStart => exact ⟨0, _, Nat.zero_le _, rfl, size_madeCells _ _, Filled.zero _ _ _, heap_alloc_new w _, by go_grown⟩
  case round =>
    obtain ⟨k, C, hk, rfl, hC, hfill, hbk, hW⟩ := hrel
    by_cases hlt : k < n
    · have ka : k < l.length := by have := LA.out; omega
      obtain ⟨b1, o1, rfl, l1, c0⟩ := (HA.out.below hW).at noC_len LA.out ka
      have c1 : wr.cell? ⟨b1, o1 + k * 3, none⟩ = some (.int .i64 l[k].fr) := c0 0 _ rfl
      have c2 : wr.cell? ⟨b1, o1 + k * 3 + 1, none⟩ = some (.int .i64 l[k].til) := c0 1 _ rfl
      have c3 : wr.cell? ⟨b1, o1 + k * 3 + 2, none⟩ = some (.string l[k].text) := c0 2 _ rfl
      clear c0
      go_wp2_with fail
      refine (toNote_any l[k] _).mono ?_
      rintro e w2 ⟨rfl, hb2⟩
      have hbk2 := hbk.below hb2 hbk.lt
      have d1 := hbk2.cell (k * 3)
      have d2 := hbk2.cell (k * 3 + 1)
      have d3 := hbk2.cell (k * 3 + 2)
      rw [Array.getElem?_eq_getElem (by have := hC.out; omega)] at d1 d2 d3
      have f1 := hbk2.frozen (k * 3)
      have f2 := hbk2.frozen (k * 3 + 1)
      have f3 := hbk2.frozen (k * 3 + 2)
      go_wp2_with fail
      go_roundw
      case rel => exact ⟨k + 1, _, by omega, by go_num, by simpa [Hid] using hC.out, (hfill.out.put3 noC_len ka (by rw [LA.out]; exact hC.out) rfl), ((hbk2.put _ _).put _ _).put _ _, by have := hW.trans (hb2.mono (Nat.le_of_lt hbk.lt)); go_grown⟩
      case measure => simp [intOf]; omega
    · have e : C = (rowOf noC l).toArray := hfill.out.done noC_len (by rw [LA.out]; omega) (by rw [LA.out]; exact hC.out)
      subst e
      go_wp2_with fail
      go_ret
      refine ⟨_, ⟨some ⟨w.heap.size, 0, none⟩, n, l⟩, rfl, by show Value.slice _ l.length n = _; rw [LA.out], rfl, ?_, hW⟩
      have hm : Mine ((Kd.flat noC 3 39).sl 0) wr w.heap.size wr.heap.size ⟨some ⟨w.heap.size, 0, none⟩, l.length, l⟩ := Mine.fresh noC_len hbk (by rw [LA.out]; unfold maxLen; omega) (Nat.le_refl _) hbk.lt
      rw [LA.out] at hm
      exact hm

set_option maxHeartbeats 4000000 in
theorem toInt64SS_any (s : Sl (Sl Int)) (w : World) (h : rowsK.rd w s) (hn : s.l.length ≤ 1048576) (he : ∀ r ∈ s.l, r.l.length ≤ 1048576) :
    Calls Try.prog 62 #[.slice s.A s.l.length s.c] w fun e w' => ∃ (g : Nat) (t : Sl (Sl Int)), e = .returned (.slice (some ⟨g, 0, none⟩) s.l.length s.l.length) ∧ t.val = .slice (some ⟨g, 0, none⟩) s.l.length s.l.length ∧ rowsK.pl t = rowsK.pl s ∧ Mine rowsK w' w.heap.size w'.heap.size t ∧ Below w.heap.size w w' := by
  obtain ⟨A, c, l⟩ := s
  obtain ⟨n, ll⟩ : ∃ n, l.length = n := ⟨_, rfl⟩
  have h1 : Rd w A l.length 1 (rowOf hdC l) := h.1
  have h2 := h.2
  simp only [] at h2 hn he ⊢
  rw [ll] at h1 hn
  rw [ll]
  obtain ⟨i0, hi0, hz0, hz1, hz2⟩ := info_parts row_info
  have hmk := make_rows (P := Try.prog) 69 78 i0 _ Try.underlying69 hi0 hz0 .i64 .i64 n (by rw [hz2]; omega) (by omega)
  rw [hz1] at hmk
  have HA := Lib.hid h1
  have HX := Lib.hid h2
  have LA := Lib.hid ll
  have HE := Lib.hid he
  clear h h1 h2 ll he
  go_enter Try.func62, Try.ntmps62
  go_wp2_with fail
  go_loopw [4] (fun i wr => ∃ (k : Nat) (C : Array Value) (T : List (Sl Int)), k ≤ n ∧ i = .int .i64 k ∧ Hid (T.length = k) ∧ Hid (T.map rowK.pl = (l.take k).map rowK.pl) ∧ Hid (C.size = n) ∧ Hid (Filled hdC C T k) ∧ Bk wr w.heap.size 78 C ∧ Hid (MineL rowK wr (w.heap.size + 1) wr.heap.size T) ∧ Below w.heap.size w wr) (fun i _ => n - (intOf i).toNat)
  case atStart => exact ⟨0, _, [], Nat.zero_le _, rfl, rfl, by simp [Hid], (by rw [Hid, size_madeCells] <;> simp), Filled.zero _ _ _, heap_alloc_new w _, MineL.nil _ _ _ _, by go_grown⟩
  case round =>
    obtain ⟨k, C, T, hk, rfl, hT, hpt, hC, hfill, hbk, hin, hW⟩ := hrel
    by_cases hlt : k < n
    · have ka : k < l.length := by have := LA.out; omega
      obtain ⟨b1, o1, rfl, l1, c0⟩ := (HA.out.below hW).at hdC_len LA.out ka
      have c1 : wr.cell? ⟨b1, o1 + k, none⟩ = some (.slice l[k].A l[k].l.length l[k].c) := by simpa [Sl.val] using c0 0 _ rfl
      clear c0
      have P1 := Lib.hid (rowK_ok.below (HX.out _ (List.getElem_mem ka)) hW)
      have hbd := Lib.hid (HE.out _ (List.getElem_mem ka))
      obtain ⟨m, hm⟩ : ∃ m, l[k].l.length = m := ⟨_, rfl⟩
      have hcall := toRow_any l[k] wr P1.out hbd.out
      rw [hm] at hcall c1
      clear hm
      go_wp2_with fail
      refine hcall.mono ?_
      rintro e w2 ⟨g, t, rfl, htv, htp, hk2, hb2⟩
      clear hcall
      have hbk2 := hbk.below hb2 hbk.lt
      have d1 := hbk2.cell k
      rw [Array.getElem?_eq_getElem (by have := hC.out; omega)] at d1
      have f1 := hbk2.frozen k
      have hbl := hbk.lt
      have hz2 := hb2.size
      have TV := Lib.hid htv
      have TP := Lib.hid htp
      have HO := Lib.hid hk2
      have hin2 := Lib.hid (hin.out.next rowK_ok hb2)
      clear htv htp hk2
      go_wp2_with fail
      go_roundw
      case rel =>
        have hne : ∀ (v : Value) (j : Nat), w.heap.size + 1 ≤ j → (w2.setCell ⟨w.heap.size, k, none⟩ v).heap[j]? = w2.heap[j]? := fun v j hj => Below.heap_setCell _ _ _ _ (by simp only [ne_eq]; omega)
        have hsz : ∀ v : Value, (w2.setCell ⟨w.heap.size, k, none⟩ v).heap.size = w2.heap.size := fun v => by simp [World.setCell]
        refine ⟨k + 1, _, T ++ [t], by omega, by go_num, by simp [Hid, hT.out], ?_, by simpa [Hid] using hC.out, ?_, hbk2.put k _, ?_, by have := hW.trans (hb2.mono (Nat.le_of_lt hbk.lt)); go_grown⟩
        · rw [Hid, List.take_succ_eq_append_getElem ka, List.map_append, List.map_append, ← hpt.out]
          simp [TP.out]
        · refine Filled.set1 hdC_len ?_ (by simp [hT.out]) (by simp [hT.out]; have := hC.out; omega) (by rw [List.getElem_append_right (by rw [hT.out]; exact Nat.le_refl _)]; simp [hdC, TV.out])
          have := hfill.out
          unfold Filled at this ⊢
          rw [List.take_append_of_le_length (by rw [hT.out]; exact Nat.le_refl _)]
          exact this
        · rw [Hid, hsz]
          exact (MineL.push hin2.out HO.out (by omega) (by omega)).block rowK_ok fun j hj _ => hne _ j hj
      case measure => simp [intOf]; omega
    · obtain rfl : k = n := by omega
      go_wp2_with fail
      go_ret
      have eC : C = (rowOf hdC T).toArray := hfill.out.done hdC_len (by rw [hT.out]; exact Nat.le_refl _) (by rw [hT.out, Nat.mul_one]; exact hC.out)
      subst eC
      refine ⟨w.heap.size, ⟨some ⟨w.heap.size, 0, none⟩, k, T⟩, rfl, by show Value.slice _ T.length k = _; rw [hT.out], ?_, ?_, hW⟩
      · have := hpt.out
        rw [List.take_of_length_le (by rw [LA.out]; exact Nat.le_refl _)] at this
        exact this
      · exact MineL.done rowK_ok hin.out hbk hT.out (by unfold maxLen; omega) (Nat.le_refl _) hbk.lt

theorem mineK {α β : Type} {K : Kd α β} (hK : K.Ok) {w w' : World} {lo hi : Nat} {a : α} (h : Mine K w lo hi a) (hb : ∀ j, lo ≤ j → j < hi → w'.heap[j]? = w.heap[j]?) {lo' hi' : Nat} (hl : lo' ≤ lo) (hh : hi ≤ hi') : Mine K w' lo' hi' a := (h.block hK hb).low hl hh
set_option maxHeartbeats 4000000 in
theorem toRows_any (s : Sl (Sl Int)) (w : World) (h : rowsK.rd w s) (hn : s.l.length ≤ 1048576) (he : ∀ r ∈ s.l, r.l.length ≤ 1048576) :
    Calls Try.prog 46 #[.agg #[.slice s.A s.l.length s.c]] w fun e w' => ∃ (g : Nat) (t : Sl (Sl Int)), e = .returned (.agg #[.slice (some ⟨g, 0, none⟩) s.l.length s.l.length]) ∧ t.val = .slice (some ⟨g, 0, none⟩) s.l.length s.l.length ∧ rowsK.pl t = rowsK.pl s ∧ Mine rowsK w' w.heap.size w'.heap.size t ∧ Below w.heap.size w w' := by
  have HA := Lib.hid h
  have HE := Lib.hid he
  clear h he
  go_enter Try.func46, Try.ntmps46
  go_wp2_with fail
  refine (toInt64SS_any s _ (rowsK_ok.below (w := w) HA.out (by go_grown)) hn HE.out).mono ?_
  rintro e w2 ⟨g, t, rfl, htv, htp, ho, hb⟩
  have TV := Lib.hid htv
  have TP := Lib.hid htp
  have HO := Lib.hid ho
  clear htv htp ho
  obtain ⟨hc, hf⟩ := bcell hb
  have hz := hb.size
  simp only [World.size_alloc] at hz
  have hy0 : w.heap.size < w2.heap.size := by omega
  have hy1 : w.heap.size + 1 < w2.heap.size := by omega
  have hy2 : w.heap.size + 1 + 1 < w2.heap.size := by omega
  have hB : Below w.heap.size w w2 := Below.next (by go_grown) hb
  have c1 : w2.cell? ⟨w.heap.size + 1, 0, none⟩ = some (.slice none 0 0) := (hc _ _ (by simp)).trans (by go_simp)
  have c2 : w2.cell? ⟨w.heap.size + 1 + 1, 0, none⟩ = some (.slice none 0 0) := (hc _ _ (by simp)).trans (by go_simp)
  have f1 : w2.frozen? ⟨w.heap.size + 1, 0, none⟩ = false := (hf _ _ (by simp)).trans (by go_simp)
  have f2 : w2.frozen? ⟨w.heap.size + 1 + 1, 0, none⟩ = false := (hf _ _ (by simp)).trans (by go_simp)
  clear hc hf hb
  go_wp2_with fail
  refine bodyPost_ret (by simp [results, Try.results46, go_sem, *]; try rfl) rfl ?_
  refine ⟨g, t, rfl, TV.out, TP.out, ?_, by go_grown⟩
  refine mineK rowsK_ok HO.out (fun j hj _ => ?_) (by simp only [World.size_alloc]; omega) (by simp [World.setCell])
  simp only [World.size_alloc] at hj
  rw [Below.heap_setCell _ _ _ _ (by simp only [ne_eq]; omega), Below.heap_setCell _ _ _ _ (by simp only [ne_eq]; omega)]

set_option maxHeartbeats 4000000 in
theorem toRowsS_any (s : Sl (Sl (Sl Int))) (w : World) (h : stK.rd w s) (hn : s.l.length ≤ 1048576) (he : ∀ r ∈ s.l, (r.l.length ≤ 1048576 ∧ ∀ q ∈ r.l, q.l.length ≤ 1048576)) :
    Calls Try.prog 21 #[.slice s.A s.l.length s.c] w fun e w' => ∃ (g : Nat) (t : Sl (Sl (Sl Int))), e = .returned (.slice (some ⟨g, 0, none⟩) s.l.length s.l.length) ∧ t.val = .slice (some ⟨g, 0, none⟩) s.l.length s.l.length ∧ stK.pl t = stK.pl s ∧ Mine stK w' w.heap.size w'.heap.size t ∧ Below w.heap.size w w' := by
  obtain ⟨A, c, l⟩ := s
  obtain ⟨n, ll⟩ : ∃ n, l.length = n := ⟨_, rfl⟩
  have h1 : Rd w A l.length 1 (rowOf hdC l) := h.1
  have h2 := h.2
  simp only [] at h2 hn he ⊢
  rw [ll] at h1 hn
  rw [ll]
  obtain ⟨i0, hi0, hz0, hz1, hz2⟩ := info_parts rows_info
  have hmk := make_rows (P := Try.prog) 32 76 i0 _ Try.underlying32 hi0 hz0 .i64 .i64 n (by rw [hz2]; omega) (by omega)
  rw [hz1] at hmk
  have HA := Lib.hid h1
  have HX := Lib.hid h2
  have LA := Lib.hid ll
  have HE := Lib.hid he
  clear h h1 h2 ll he
  go_enter Try.func21, Try.ntmps21
  go_wp2_with fail
  go_loopw [4] (fun i wr => ∃ (k : Nat) (C : Array Value) (T : List (Sl (Sl Int))), k ≤ n ∧ i = .int .i64 k ∧ Hid (T.length = k) ∧ Hid (T.map rowsK.pl = (l.take k).map rowsK.pl) ∧ Hid (C.size = n) ∧ Hid (Filled hdC C T k) ∧ Bk wr w.heap.size 76 C ∧ Hid (MineL rowsK wr (w.heap.size + 1) wr.heap.size T) ∧ Below w.heap.size w wr) (fun i _ => n - (intOf i).toNat)
  case atStart => exact ⟨0, _, [], Nat.zero_le _, rfl, rfl, by simp [Hid], (by rw [Hid, size_madeCells] <;> simp), Filled.zero _ _ _, heap_alloc_new w _, MineL.nil _ _ _ _, by go_grown⟩
  case round =>
    obtain ⟨k, C, T, hk, rfl, hT, hpt, hC, hfill, hbk, hin, hW⟩ := hrel
    by_cases hlt : k < n
    · have ka : k < l.length := by have := LA.out; omega
      obtain ⟨b1, o1, rfl, l1, c0⟩ := (HA.out.below hW).at hdC_len LA.out ka
      have c1 : wr.cell? ⟨b1, o1 + k, none⟩ = some (.slice l[k].A l[k].l.length l[k].c) := by simpa [Sl.val] using c0 0 _ rfl
      clear c0
      have P1 := Lib.hid (rowsK_ok.below (HX.out _ (List.getElem_mem ka)) hW)
      have hbd := Lib.hid (HE.out _ (List.getElem_mem ka))
      obtain ⟨m, hm⟩ : ∃ m, l[k].l.length = m := ⟨_, rfl⟩
      have hcall := toRows_any l[k] wr P1.out hbd.out.1 hbd.out.2
      rw [hm] at hcall c1
      clear hm
      go_wp2_with fail
      refine hcall.mono ?_
      rintro e w2 ⟨g, t, rfl, htv, htp, hk2, hb2⟩
      clear hcall
      have hbk2 := hbk.below hb2 hbk.lt
      have d1 := hbk2.cell k
      rw [Array.getElem?_eq_getElem (by have := hC.out; omega)] at d1
      have f1 := hbk2.frozen k
      have hbl := hbk.lt
      have hz2 := hb2.size
      have TV := Lib.hid htv
      have TP := Lib.hid htp
      have HO := Lib.hid hk2
      have hin2 := Lib.hid (hin.out.next rowsK_ok hb2)
      clear htv htp hk2
      go_wp2_with fail
      go_roundw
      case rel =>
        have hne : ∀ (v : Value) (j : Nat), w.heap.size + 1 ≤ j → (w2.setCell ⟨w.heap.size, k, none⟩ v).heap[j]? = w2.heap[j]? := fun v j hj => Below.heap_setCell _ _ _ _ (by simp only [ne_eq]; omega)
        have hsz : ∀ v : Value, (w2.setCell ⟨w.heap.size, k, none⟩ v).heap.size = w2.heap.size := fun v => by simp [World.setCell]
        refine ⟨k + 1, _, T ++ [t], by omega, by go_num, by simp [Hid, hT.out], ?_, by simpa [Hid] using hC.out, ?_, hbk2.put k _, ?_, by have := hW.trans (hb2.mono (Nat.le_of_lt hbk.lt)); go_grown⟩
        · rw [Hid, List.take_succ_eq_append_getElem ka, List.map_append, List.map_append, ← hpt.out]
          simp [TP.out]
        · refine Filled.set1 hdC_len ?_ (by simp [hT.out]) (by simp [hT.out]; have := hC.out; omega) (by rw [List.getElem_append_right (by rw [hT.out]; exact Nat.le_refl _)]; simp [hdC, TV.out])
          have := hfill.out
          unfold Filled at this ⊢
          rw [List.take_append_of_le_length (by rw [hT.out]; exact Nat.le_refl _)]
          exact this
        · rw [Hid, hsz]
          exact (MineL.push hin2.out HO.out (by omega) (by omega)).block rowsK_ok fun j hj _ => hne _ j hj
      case measure => simp [intOf]; omega
    · obtain rfl : k = n := by omega
      go_wp2_with fail
      go_ret
      have eC : C = (rowOf hdC T).toArray := hfill.out.done hdC_len (by rw [hT.out]; exact Nat.le_refl _) (by rw [hT.out, Nat.mul_one]; exact hC.out)
      subst eC
      refine ⟨w.heap.size, ⟨some ⟨w.heap.size, 0, none⟩, k, T⟩, rfl, by show Value.slice _ T.length k = _; rw [hT.out], ?_, ?_, hW⟩
      · have := hpt.out
        rw [List.take_of_length_le (by rw [LA.out]; exact Nat.le_refl _)] at this
        exact this
      · exact MineL.done rowsK_ok hin.out hbk hT.out (by unfold maxLen; omega) (Nat.le_refl _) hbk.lt

set_option maxHeartbeats 8000000 in
theorem toFile_any (f : Fl) (w : World) (h : FileRd w f) (hs : FileSz f) :
    Calls Try.prog 7 #[.agg #[.slice f.ch.A f.ch.l.length f.ch.c, .slice f.st.A f.st.l.length f.st.c, .slice f.no.A f.no.l.length f.no.c]] w fun e w' => ∃ t : Fl, e = .returned (.agg #[.slice t.ch.A t.ch.l.length t.ch.c, .slice t.st.A t.st.l.length t.st.c, .slice t.no.A t.no.l.length t.no.c]) ∧ filePl t = filePl f ∧ FileMine w' w.heap.size w'.heap.size t ∧ Below w.heap.size w w' := by
  have HA := Lib.hid h
  have HS := Lib.hid hs
  clear h hs
  have H0 : Hid (Bk (((w.alloc (.cells #[.slice f.ch.A f.ch.l.length f.ch.c, .slice f.st.A f.st.l.length f.st.c, .slice f.no.A f.no.l.length f.no.c] 26)).alloc (.cells #[.slice none 0 0, .slice none 0 0, .slice none 0 0] 35)).alloc (.cells #[.slice none 0 0, .slice none 0 0, .slice none 0 0] 35)) w.heap.size 26 #[.slice f.ch.A f.ch.l.length f.ch.c, .slice f.st.A f.st.l.length f.st.c, .slice f.no.A f.no.l.length f.no.c]) := ((Bk.new w _ _).alloc _).alloc _
  have H1 : Hid (Bk (((w.alloc (.cells #[.slice f.ch.A f.ch.l.length f.ch.c, .slice f.st.A f.st.l.length f.st.c, .slice f.no.A f.no.l.length f.no.c] 26)).alloc (.cells #[.slice none 0 0, .slice none 0 0, .slice none 0 0] 35)).alloc (.cells #[.slice none 0 0, .slice none 0 0, .slice none 0 0] 35)) (w.heap.size + 1) 35 #[.slice none 0 0, .slice none 0 0, .slice none 0 0]) := (Bk.new1 w _ _ _).alloc _
  have H2 : Hid (Bk (((w.alloc (.cells #[.slice f.ch.A f.ch.l.length f.ch.c, .slice f.st.A f.st.l.length f.st.c, .slice f.no.A f.no.l.length f.no.c] 26)).alloc (.cells #[.slice none 0 0, .slice none 0 0, .slice none 0 0] 35)).alloc (.cells #[.slice none 0 0, .slice none 0 0, .slice none 0 0] 35)) (w.heap.size + 1 + 1) 35 #[.slice none 0 0, .slice none 0 0, .slice none 0 0]) := Bk.new2 w _ _ _ _
  go_enter Try.func7, Try.ntmps7
  go_wp2_with fail
  refine (toChannelS_any f.ch _ (chsK_ok.below (w := w) HA.out.ch (by go_grown)).1 HS.out.ch).mono ?_
  rintro e w2 ⟨g1, t1, rfl, hv1, hp1, hm1, hb1⟩
  have B2 : Below w.heap.size w w2 := Below.next (by go_grown) hb1
  have z2 := hb1.size
  simp only [World.size_alloc] at z2
  have K0 := Lib.hid (H0.out.next hb1)
  have K1 := Lib.hid (H1.out.next hb1)
  have K2 := Lib.hid (H2.out.next hb1)
  have V1 := Lib.hid hv1
  have P1 := Lib.hid hp1
  have M1 := Lib.hid hm1
  clear hv1 hp1 hm1 hb1 H0 H1 H2
  have y0 : w.heap.size < w2.heap.size := by omega
  have y2 : w.heap.size + 1 + 1 < w2.heap.size := by omega
  have c01 : w2.cell? ⟨w.heap.size, 1, none⟩ = some (.slice f.st.A f.st.l.length f.st.c) := K0.out.cell 1
  have c20 : w2.cell? ⟨w.heap.size + 1 + 1, 0, none⟩ = some (.slice none 0 0) := K2.out.cell 0
  have f20 := K2.out.frozen 0
  go_wp2_with fail
  obtain ⟨W2, hW2⟩ : ∃ W, w2.setCell ⟨w.heap.size + 1 + 1, 0, none⟩ (.slice (some ⟨g1, 0, none⟩) f.ch.l.length f.ch.l.length) = W := ⟨_, rfl⟩
  rw [hW2]
  have B2' : Below w.heap.size w W2 := by rw [← hW2]; exact B2.setCell (by simp only []; omega) _
  have J0 : Hid (Bk W2 w.heap.size 26 #[.slice f.ch.A f.ch.l.length f.ch.c, .slice f.st.A f.st.l.length f.st.c, .slice f.no.A f.no.l.length f.no.c]) := by rw [← hW2]; exact K0.out.other (by simp only [ne_eq]; omega) _
  have J1 : Hid (Bk W2 (w.heap.size + 1) 35 #[.slice none 0 0, .slice none 0 0, .slice none 0 0]) := by rw [← hW2]; exact K1.out.other (by simp only [ne_eq]; omega) _
  have J2 : Hid (Bk W2 (w.heap.size + 1 + 1) 35 #[.slice (some ⟨g1, 0, none⟩) f.ch.l.length f.ch.l.length, .slice none 0 0, .slice none 0 0]) := by rw [← hW2]; exact K2.out.put 0 _
  have s2 : W2.heap.size = w2.heap.size := by rw [← hW2]; simp [World.setCell]
  have N1 : Hid (Mine chsK W2 (w.heap.size + 1 + 1 + 1) W2.heap.size t1) := by
    refine mineK chsK_ok M1.out (fun j hj _ => ?_) (by simp only [World.size_alloc]; omega) (by omega)
    simp only [World.size_alloc] at hj
    rw [← hW2]
    exact Below.heap_setCell _ _ _ _ (by simp only [ne_eq]; omega)
  clear hW2 K0 K1 K2 M1 c01 c20 f20
  refine (toRowsS_any f.st _ (stK_ok.below (w := w) HA.out.st (B2'.mono (Nat.le_refl _))) HS.out.st (fun s hs => ⟨(HS.out.rows s hs).1, (HS.out.rows s hs).2.1⟩)).mono ?_
  rintro e w3 ⟨g2, t2, rfl, hv2, hp2, hm2, hb2⟩
  have B3 : Below w.heap.size w w3 := B2'.trans (hb2.mono (by omega))
  have z3 := hb2.size
  have K0 := Lib.hid (J0.out.next hb2)
  have K1 := Lib.hid (J1.out.next hb2)
  have K2 := Lib.hid (J2.out.next hb2)
  have N1' := Lib.hid (N1.out.next chsK_ok hb2)
  have V2 := Lib.hid hv2
  have P2 := Lib.hid hp2
  have M2 := Lib.hid hm2
  clear hv2 hp2 hm2 hb2 J0 J1 J2 N1
  have y0 : w.heap.size < w3.heap.size := by omega
  have y2 : w.heap.size + 1 + 1 < w3.heap.size := by omega
  have c02 : w3.cell? ⟨w.heap.size, 2, none⟩ = some (.slice f.no.A f.no.l.length f.no.c) := K0.out.cell 2
  have c21 : w3.cell? ⟨w.heap.size + 1 + 1, 1, none⟩ = some (.slice none 0 0) := K2.out.cell 1
  have f21 := K2.out.frozen 1
  go_wp2_with fail
  obtain ⟨W3, hW3⟩ : ∃ W, w3.setCell ⟨w.heap.size + 1 + 1, 1, none⟩ (.slice (some ⟨g2, 0, none⟩) f.st.l.length f.st.l.length) = W := ⟨_, rfl⟩
  rw [hW3]
  have B3' : Below w.heap.size w W3 := by rw [← hW3]; exact B3.setCell (by simp only []; omega) _
  have J1 : Hid (Bk W3 (w.heap.size + 1) 35 #[.slice none 0 0, .slice none 0 0, .slice none 0 0]) := by rw [← hW3]; exact K1.out.other (by simp only [ne_eq]; omega) _
  have J2 : Hid (Bk W3 (w.heap.size + 1 + 1) 35 #[.slice (some ⟨g1, 0, none⟩) f.ch.l.length f.ch.l.length, .slice (some ⟨g2, 0, none⟩) f.st.l.length f.st.l.length, .slice none 0 0]) := by rw [← hW3]; exact K2.out.put 1 _
  have s3 : W3.heap.size = w3.heap.size := by rw [← hW3]; simp [World.setCell]
  have N1 : Hid (Mine chsK W3 (w.heap.size + 1 + 1 + 1) W2.heap.size t1) := by
    refine mineK chsK_ok N1'.out (fun j hj _ => ?_) (Nat.le_refl _) (Nat.le_refl _)
    rw [← hW3]
    exact Below.heap_setCell _ _ _ _ (by simp only [ne_eq]; omega)
  have N2 : Hid (Mine stK W3 W2.heap.size W3.heap.size t2) := by
    refine mineK stK_ok M2.out (fun j hj _ => ?_) (Nat.le_refl _) (by omega)
    rw [← hW3]
    exact Below.heap_setCell _ _ _ _ (by simp only [ne_eq]; omega)
  clear hW3 K0 K1 K2 N1' M2 c02 c21 f21
  refine (toNoteS_any f.no _ (nosK_ok.below (w := w) HA.out.no B3').1 HS.out.no).mono ?_
  rintro e w4 ⟨g3, t3, rfl, hv3, hp3, hm3, hb3⟩
  have B4 : Below w.heap.size w w4 := B3'.trans (hb3.mono (by omega))
  have z4 := hb3.size
  have K1 := J1.out.next hb3
  have K2 := J2.out.next hb3
  have N1' := Lib.hid (N1.out.next chsK_ok hb3)
  have N2' := Lib.hid (N2.out.next stK_ok hb3)
  have V3 := Lib.hid hv3
  have P3 := Lib.hid hp3
  have M3 := Lib.hid hm3
  clear hv3 hp3 hm3 hb3 J1 J2 N1 N2
  have y1 : w.heap.size + 1 < w4.heap.size := by omega
  have y2 : w.heap.size + 1 + 1 < w4.heap.size := by omega
  have c20 : w4.cell? ⟨w.heap.size + 1 + 1, 0, none⟩ = some (.slice (some ⟨g1, 0, none⟩) f.ch.l.length f.ch.l.length) := K2.cell 0
  have c21 : w4.cell? ⟨w.heap.size + 1 + 1, 1, none⟩ = some (.slice (some ⟨g2, 0, none⟩) f.st.l.length f.st.l.length) := K2.cell 1
  have c22 : w4.cell? ⟨w.heap.size + 1 + 1, 2, none⟩ = some (.slice none 0 0) := K2.cell 2
  have f22 := K2.frozen 2
  have c10 : w4.cell? ⟨w.heap.size + 1, 0, none⟩ = some (.slice none 0 0) := K1.cell 0
  have c11 : w4.cell? ⟨w.heap.size + 1, 1, none⟩ = some (.slice none 0 0) := K1.cell 1
  have c12 : w4.cell? ⟨w.heap.size + 1, 2, none⟩ = some (.slice none 0 0) := K1.cell 2
  have f10 := K1.frozen 0
  have f11 := K1.frozen 1
  have f12 := K1.frozen 2
  clear K1 K2
  go_wp2_with fail
  refine bodyPost_ret (by simp [results, Try.results7, go_sem, *]; try rfl) rfl ?_
  refine ⟨⟨t1, t2, t3⟩, ?_, ?_, ⟨mineK chsK_ok N1'.out (fun j hj _ => ?_) (by omega) ?_, mineK stK_ok N2'.out (fun j hj _ => ?_) (by omega) ?_, mineK nosK_ok M3.out (fun j hj _ => ?_) (by omega) ?_, fun b hb hm => ?_, fun b hb hm => ?_, fun b hb hm => ?_⟩, by go_grown⟩
  · show _ = Ending.returned (.agg #[t1.val, t2.val, t3.val])
    rw [V1.out, V2.out, V3.out]
  · show FlP.mk _ _ _ = FlP.mk _ _ _
    rw [show t1.l = f.ch.l from P1.out, show t3.l = f.no.l from P3.out, show stK.pl t2 = stK.pl f.st from P2.out]
  · repeat rw [Below.heap_setCell _ _ _ _ (by simp only [ne_eq]; omega)]
  · simp [World.setCell]; omega
  · repeat rw [Below.heap_setCell _ _ _ _ (by simp only [ne_eq]; omega)]
  · simp [World.setCell]; omega
  · repeat rw [Below.heap_setCell _ _ _ _ (by simp only [ne_eq]; omega)]
  · simp [World.setCell]
  · have h1 := N1'.out.rng b hb; have h2 := N2'.out.rng b hm; omega
  · have h1 := N1'.out.rng b hb; have h2 := M3.out.rng b hm; omega
  · have h1 := N2'.out.rng b hb; have h2 := M3.out.rng b hm; omega
theorem flSz_pl {f : Fl} (h : flSz f ≤ 1048576) : PlSz (filePl f) ∧ PlTx (filePl f) ∧ FileSz f := by
  have hmem : ∀ {α : Type} (cnt : α → Nat) (l : List α) (a : α), a ∈ l → cnt a ≤ cntL cnt l := fun cnt l a ha => by
    induction l with
    | nil => simp at ha
    | cons b l ih =>
      show cnt a ≤ cnt b + cntL cnt l
      rcases List.mem_cons.1 ha with rfl | ha
      · omega
      · have := ih ha; omega
  have hrows : cntL cntRows f.st.l ≤ cntL rowsSz f.st.l := by
    generalize f.st.l = l
    induction l with
    | nil => exact Nat.le_refl _
    | cons b l ih =>
      show cntRows b + cntL cntRows l ≤ rowsSz b + cntL rowsSz l
      have : cntRows b ≤ rowsSz b := Nat.le_add_left _ _
      omega
  have hF : FileSz f := by
    unfold flSz at h
    refine ⟨by omega, by omega, fun s hs => ?_, by omega, by omega⟩
    have h1 : s.l.length + cntL cntRow s.l ≤ cntL rowsSz f.st.l := hmem rowsSz _ _ hs
    refine ⟨by omega, fun r hr => ?_, by omega⟩
    have h4 : r.l.length ≤ cntL cntRow s.l := hmem cntRow _ _ hr
    omega
  refine ⟨⟨hF.ch, ?_, fun s hs => ?_, by have := hF.sum; rw [cntJ_is] at this; exact this, hF.no⟩, ⟨fun c hc => ?_, fun n hn => ?_⟩, hF⟩
  · show (f.st.l.map rowsK.pl).length ≤ _
    rw [List.length_map]; exact hF.st
  · obtain ⟨t, ht, rfl⟩ := List.mem_map.1 hs
    obtain ⟨a1, a2, a3⟩ := hF.rows t ht
    refine ⟨by show (t.l.map rowK.pl).length ≤ _; rw [List.length_map]; exact a1, fun r hr => ?_, by rw [← cntI_is]; exact a3⟩
    obtain ⟨q, hq, rfl⟩ := List.mem_map.1 hr
    rw [rowK_pl]
    exact a2 q hq
  · have h1 : c.name.size + c.unit.size ≤ cntL chSz f.ch.l := hmem chSz _ _ hc
    unfold flSz at h
    omega
  · have h1 : n.text.size ≤ cntL noSz f.no.l := hmem noSz _ _ hn
    unfold flSz at h
    omega
theorem toFile_L (f : Fl) (p : FlP) (w : World) (h : FileRd w f) (hp : filePl f = p) (hs : PlSz p) :
    Calls Try.prog 7 #[.agg #[.slice f.ch.A f.ch.l.length f.ch.c, .slice f.st.A f.st.l.length f.st.c, .slice f.no.A f.no.l.length f.no.c]] w fun e w' => ∃ t : Fl, e = .returned (.agg #[.slice t.ch.A t.ch.l.length t.ch.c, .slice t.st.A t.st.l.length t.st.c, .slice t.no.A t.no.l.length t.no.c]) ∧ filePl t = p ∧ FileMine w' w.heap.size w'.heap.size t ∧ Below w.heap.size w w' := by
  have h1 := toFile_any f w h (FileSz.of_pl hp hs)
  rw [hp] at h1
  exact h1

end Go.Proofs.Ytmdmjnhebbhjbaa
