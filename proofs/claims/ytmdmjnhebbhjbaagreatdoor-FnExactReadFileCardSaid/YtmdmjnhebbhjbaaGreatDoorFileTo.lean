/-
  A file of the law becomes one of the program.
-/
import Derived.Test.YtmdmjnhebbhjbaaGreatDoorFileSz
import Derived.Test.YtmdmjnhebbhjbaaGreatDoorIntsTo
import Derived.Test.YtmdmjnhebbhjbaaGreatDoorFilea
import Derived.Test.YtmdmjnhebbhjbaaGreatDoorFileB
import Derived.Test.YtmdmjnhebbhjbaaGreatDoorPtsa
namespace Go.Proofs.YtmdmjnhebbhjbaaGreatDoor
set_option linter.unusedSimpArgs false
set_option linter.unusedVariables false
set_option maxRecDepth 20000
open Go.RowKit
open Go.ChangeShapes Go.WideShapes Go.ChangeAt Go.Deep Go.Joins

/-- elements of one's own, apart, in blocks from lo to hi -/
structure MineL {α β : Type} (K : Kd α β) (w : World) (lo hi : Nat) (l : List α) : Prop where
  own : ∀ a ∈ l, K.own w a
  apart : (l.flatMap K.fp).Nodup
  rng : ∀ b ∈ l.flatMap K.fp, lo ≤ b ∧ b < hi
theorem MineL.nil {α β : Type} (K : Kd α β) (w : World) (lo hi : Nat) : MineL K w lo hi [] := ⟨fun a ha => by simp at ha, by simp, fun b hb => by simp at hb⟩
theorem MineL.push {α β : Type} {K : Kd α β} {w : World} {lo hi hi2 : Nat} {l : List α} {a : α} (h : MineL K w lo hi l) (ha : Mine K w hi hi2 a) (h1 : lo ≤ hi) (h2 : hi ≤ hi2) : MineL K w lo hi2 (l ++ [a]) := by
  have e : (l ++ [a]).flatMap K.fp = l.flatMap K.fp ++ K.fp a := by simp
  refine ⟨fun x hx => ?_, ?_, fun b hb => ?_⟩
  · rcases List.mem_append.1 hx with hx | hx
    · exact h.own x hx
    · rw [List.mem_singleton] at hx
      subst hx
      exact ha.own
  · rw [e, List.nodup_append]
    exact ⟨h.apart, ha.apart, fun x hx y hy e => by have := h.rng x hx; have := ha.rng y hy; omega⟩
  · rw [e] at hb
    rcases List.mem_append.1 hb with hb | hb
    · have := h.rng b hb; omega
    · have := ha.rng b hb; omega
theorem MineL.block {α β : Type} {K : Kd α β} (hK : K.Ok) {w w' : World} {lo hi : Nat} {l : List α} (h : MineL K w lo hi l) (hb : ∀ j, lo ≤ j → j < hi → w'.heap[j]? = w.heap[j]?) : MineL K w' lo hi l :=
  ⟨fun a ha => hK.keep (h.own a ha) fun b hm => by have := h.rng b (List.mem_flatMap.2 ⟨a, ha, hm⟩); exact hb b this.1 this.2, h.apart, h.rng⟩
theorem MineL.next {α β : Type} {K : Kd α β} (hK : K.Ok) {w w' : World} {lo hi : Nat} {l : List α} (h : MineL K w lo hi l) (hb : Below w.heap.size w w') : MineL K w' lo hi l :=
  ⟨fun a ha => Kd.own_next hK (h.own a ha) hb, h.apart, h.rng⟩
theorem Mine.block {α β : Type} {K : Kd α β} (hK : K.Ok) {w w' : World} {lo hi : Nat} {a : α} (h : Mine K w lo hi a) (hb : ∀ j, lo ≤ j → j < hi → w'.heap[j]? = w.heap[j]?) : Mine K w' lo hi a :=
  ⟨hK.keep h.own fun b hm => by have := h.rng b hm; exact hb b this.1 this.2, h.apart, h.rng⟩
theorem MineL.done {α β : Type} {K : Kd α β} (hK : K.Ok) {T : TypeId} {w : World} {g lo hi n : Nat} {l : List α} (h : MineL K w (g + 1) hi l) (hb : Bk w g K.E (rowOf K.cell l).toArray) (hl : l.length = n) (hm : n ≤ maxLen) (hlo : lo ≤ g) (hhi : g < hi) :
    Mine (K.sl T) w lo hi ⟨some ⟨g, 0, none⟩, n, l⟩ := by
  subst hl
  have hfp : (K.sl T).fp ⟨some ⟨g, 0, none⟩, l.length, l⟩ = g :: l.flatMap K.fp := by
    show (Value.slice (some ⟨g, 0, none⟩) l.length l.length).ownBlock.toList ++ l.flatMap K.fp = _
    simp [Value.ownBlock]
  refine ⟨⟨Own.of_bk hb hK.len hm (Nat.zero_le _), h.own⟩, ?_, fun b hm2 => ?_⟩
  · rw [hfp, List.nodup_cons]
    exact ⟨fun hx => by have := h.rng g hx; omega, h.apart⟩
  · rw [hfp, List.mem_cons] at hm2
    rcases hm2 with rfl | hm2
    · omega
    · have := h.rng b hm2; omega
theorem row_info : (Tryz.prog.info? 58).map (fun i => (i.zero, i.size, i.bytes)) = some (some (.slice none 0 0), 1, 24) := by kernel_rfl
theorem rows_info : (Tryz.prog.info? 93).map (fun i => (i.zero, i.size, i.bytes)) = some (some (.agg #[.slice none 0 0]), 1, 24) := by kernel_rfl
theorem mineK {α β : Type} {K : Kd α β} (hK : K.Ok) {w w' : World} {lo hi : Nat} {a : α} (h : Mine K w lo hi a) (hb : ∀ j, lo ≤ j → j < hi → w'.heap[j]? = w.heap[j]?) {lo' hi' : Nat} (hl : lo' ≤ lo) (hh : hi ≤ hi') : Mine K w' lo' hi' a := (h.block hK hb).low hl hh
theorem flSz_pl {f : Fl} (h : flSz f ≤ 1048576) : PlSz (filePl f) ∧ PlTx (filePl f) ∧ FileSz f := by
  have hmem : ∀ {α : Type} (cnt : α → Nat) (l : List α) (a : α), a ∈ l → cnt a ≤ cntL cnt l := fun cnt l a ha => by
    induction l with
    | nil => simp at ha
    | cons b l ih =>
      show cnt a ≤ cnt b + cntL cnt l
      rcases List.mem_cons.1 ha with rfl | ha
      · omega
      · have := ih ha; omega
  have hrows : cntL cntRows f.st.l ≤ cntL rowsSz f.st.l := by
    generalize f.st.l = l
    induction l with
    | nil => exact Nat.le_refl _
    | cons b l ih =>
      show cntRows b + cntL cntRows l ≤ rowsSz b + cntL rowsSz l
      have : cntRows b ≤ rowsSz b := Nat.le_add_left _ _
      omega
  have hF : FileSz f := by
    unfold flSz at h
    refine ⟨by omega, by omega, fun s hs => ?_, by omega, by omega⟩
    have h1 : s.l.length + cntL cntRow s.l ≤ cntL rowsSz f.st.l := hmem rowsSz _ _ hs
    refine ⟨by omega, fun r hr => ?_, by omega⟩
    have h4 : r.l.length ≤ cntL cntRow s.l := hmem cntRow _ _ hr
    omega
  refine ⟨⟨hF.ch, ?_, fun s hs => ?_, by have := hF.sum; rw [cntJ_is] at this; exact this, hF.no⟩, ⟨fun c hc => ?_, fun n hn => ?_⟩, hF⟩
  · show (f.st.l.map rowsK.pl).length ≤ _
    rw [List.length_map]; exact hF.st
  · obtain ⟨t, ht, rfl⟩ := List.mem_map.1 hs
    obtain ⟨a1, a2, a3⟩ := hF.rows t ht
    refine ⟨by show (t.l.map rowK.pl).length ≤ _; rw [List.length_map]; exact a1, fun r hr => ?_, by rw [← cntI_is]; exact a3⟩
    obtain ⟨q, hq, rfl⟩ := List.mem_map.1 hr
    rw [rowK_pl]
    exact a2 q hq
  · have h1 : c.name.size + c.unit.size ≤ cntL chSz f.ch.l := hmem chSz _ _ hc
    unfold flSz at h
    omega
  · have h1 : n.text.size ≤ cntL noSz f.no.l := hmem noSz _ _ hn
    unfold flSz at h
    omega
end Go.Proofs.YtmdmjnhebbhjbaaGreatDoor
