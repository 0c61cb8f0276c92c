/-
  A file of one's own grows: a channel, a stroke, a note is pushed. The reading of lines keeps sizes.
-/
import Derived.Test.YtmdmjnhebbhjbaaFilea
import Derived.Test.YtmdmjnhebbhjbaaInkFa
import Derived.Test.YtmdmjnhebbhjbaaFTxP
namespace Go.Proofs.Ytmdmjnhebbhjbaa
set_option linter.unusedSimpArgs false
set_option linter.unusedVariables false
set_option maxRecDepth 20000
open Go.RowKit
open Go.ChangeShapes Go.WideShapes Go.Deep Go.Joins

theorem push_fp {α β : Type} {K : Kd α β} {T : TypeId} {A : Option Addr} {c : Nat} {l : List α} {a : α} {g cap N b : Nat} (hat : (Value.slice A l.length c).ownBlock = some g ∨ g = N) (hb : b ∈ (K.sl T).fp ⟨some ⟨g, 0, none⟩, cap, l ++ [a]⟩) :
    b ∈ (K.sl T).fp ⟨A, c, l⟩ ∨ b ∈ K.fp a ∨ b = N := by
  have h1 : b ∈ (Value.slice (some ⟨g, 0, none⟩) (l ++ [a]).length cap).ownBlock.toList ++ (l ++ [a]).flatMap K.fp := hb
  rcases List.mem_append.1 h1 with h2 | h2
  · have e : b = g := by simpa [Value.ownBlock] using h2
    subst e
    rcases hat with h3 | h3
    · exact .inl (Kd.fp_top (s := ⟨A, c, l⟩) h3)
    · exact .inr (.inr h3)
  · obtain ⟨x, hx, hb2⟩ := List.mem_flatMap.1 h2
    rcases List.mem_append.1 hx with hx | hx
    · exact .inl (Kd.fp_in (s := ⟨A, c, l⟩) hx hb2)
    · rw [List.mem_singleton] at hx
      subst hx
      exact .inr (.inl hb2)
theorem Mine.aside {α β : Type} {K : Kd α β} (hK : K.Ok) {wi W4 w5 : World} {lo hi : Nat} {x : α} {v : Value} (h : Mine K wi lo hi x) (hhi : hi ≤ wi.heap.size) (h4 : Below wi.heap.size wi W4) (hgrow : W4.grownBy w5 v.ownBlock) (hv : ∀ b, v.ownBlock = some b → b ∉ K.fp x) : Mine K w5 lo w5.heap.size x := by
  have h1 := h.next hK h4
  have h2 : ChgF v.ownBlock.toList W4 w5 := ChgF.of_grown hgrow fun b hb => by rw [hb]; simp
  have h3 := h1.chg hK h2 fun b hb hm => hv b (by simpa using hm) hb
  have s1 := h4.size
  have s2 := hgrow.size
  exact h3.low (Nat.le_refl _) (by omega)
section
variable {wi W4 w5 : World} {lo hi g cap B : Nat} {A1 A2 A3 : Option Addr} {c1 c2 c3 : Nat} {cs : List Ch} {ss : List (Sl (Sl Int))} {ns : List No}
theorem FileMine.pushCh {a : Ch} (h : FileMine wi lo hi ⟨⟨A1, c1, cs⟩, ⟨A2, c2, ss⟩, ⟨A3, c3, ns⟩⟩) (hhi : hi ≤ wi.heap.size) (hlo : lo ≤ hi) (h4 : Below wi.heap.size wi W4) (hgrow : W4.grownBy w5 (Value.slice A1 cs.length c1).ownBlock)
    (hat : (Value.slice A1 cs.length c1).ownBlock = some g ∨ g = W4.heap.size) (hlt : g < w5.heap.size) (hown : Own chC 74 4 w5 B (.slice (some ⟨g, 0, none⟩) (cs.length + 1) cap) (cs ++ [a])) :
    FileMine w5 lo w5.heap.size ⟨⟨some ⟨g, 0, none⟩, cap, cs ++ [a]⟩, ⟨A2, c2, ss⟩, ⟨A3, c3, ns⟩⟩ := by
  have hs := h4.size
  have hm := Mine.push (K := Kd.flat chC 4 74) (T := 0) (Kd.flat_ok chC_len) (a := a) h.ch ⟨trivial, by show List.Nodup ([] : List Nat); exact List.nodup_nil, fun b hb => by simp [Kd.flat] at hb⟩ hhi hlo h4 hgrow hat hlt hown
  have d1 : ∀ b, (Value.slice A1 cs.length c1).ownBlock = some b → b ∈ chsK.fp ⟨A1, c1, cs⟩ := fun b hb => Kd.fp_top (s := ⟨A1, c1, cs⟩) hb
  have key : ∀ b, b ∈ chsK.fp (⟨some ⟨g, 0, none⟩, cap, cs ++ [a]⟩ : Sl Ch) → b ∈ chsK.fp (⟨A1, c1, cs⟩ : Sl Ch) ∨ b = W4.heap.size := fun b hb => by
    rcases push_fp (K := Kd.flat chC 4 74) (T := 0) hat hb with h1 | h1 | h1
    · exact .inl h1
    · simp [Kd.flat] at h1
    · exact .inr h1
  exact ⟨hm, h.st.aside stK_ok hhi h4 hgrow (fun b hb => h.d1 b (d1 b hb)), h.no.aside nosK_ok hhi h4 hgrow (fun b hb => h.d2 b (d1 b hb)),
    fun b hb hb2 => by
      rcases key b hb with h1 | h1
      · exact h.d1 b h1 hb2
      · have := (h.st.rng b hb2).2; omega,
    fun b hb hb2 => by
      rcases key b hb with h1 | h1
      · exact h.d2 b h1 hb2
      · have := (h.no.rng b hb2).2; omega, h.d3⟩
theorem FileMine.pushNo {a : No} (h : FileMine wi lo hi ⟨⟨A1, c1, cs⟩, ⟨A2, c2, ss⟩, ⟨A3, c3, ns⟩⟩) (hhi : hi ≤ wi.heap.size) (hlo : lo ≤ hi) (h4 : Below wi.heap.size wi W4) (hgrow : W4.grownBy w5 (Value.slice A3 ns.length c3).ownBlock)
    (hat : (Value.slice A3 ns.length c3).ownBlock = some g ∨ g = W4.heap.size) (hlt : g < w5.heap.size) (hown : Own noC 39 3 w5 B (.slice (some ⟨g, 0, none⟩) (ns.length + 1) cap) (ns ++ [a])) :
    FileMine w5 lo w5.heap.size ⟨⟨A1, c1, cs⟩, ⟨A2, c2, ss⟩, ⟨some ⟨g, 0, none⟩, cap, ns ++ [a]⟩⟩ := by
  have hs := h4.size
  have hm := Mine.push (K := Kd.flat noC 3 39) (T := 0) (Kd.flat_ok noC_len) (a := a) h.no ⟨trivial, by show List.Nodup ([] : List Nat); exact List.nodup_nil, fun b hb => by simp [Kd.flat] at hb⟩ hhi hlo h4 hgrow hat hlt hown
  have d1 : ∀ b, (Value.slice A3 ns.length c3).ownBlock = some b → b ∈ nosK.fp ⟨A3, c3, ns⟩ := fun b hb => Kd.fp_top (s := ⟨A3, c3, ns⟩) hb
  have key : ∀ b, b ∈ nosK.fp (⟨some ⟨g, 0, none⟩, cap, ns ++ [a]⟩ : Sl No) → b ∈ nosK.fp (⟨A3, c3, ns⟩ : Sl No) ∨ b = W4.heap.size := fun b hb => by
    rcases push_fp (K := Kd.flat noC 3 39) (T := 0) hat hb with h1 | h1 | h1
    · exact .inl h1
    · simp [Kd.flat] at h1
    · exact .inr h1
  exact ⟨h.ch.aside chsK_ok hhi h4 hgrow (fun b hb hb2 => h.d2 b hb2 (d1 b hb)), h.st.aside stK_ok hhi h4 hgrow (fun b hb hb2 => h.d3 b hb2 (d1 b hb)), hm, h.d1,
    fun b hb hb2 => by
      rcases key b hb2 with h1 | h1
      · exact h.d2 b hb h1
      · have := (h.ch.rng b hb).2; omega,
    fun b hb hb2 => by
      rcases key b hb2 with h1 | h1
      · exact h.d3 b hb h1
      · have := (h.st.rng b hb).2; omega⟩
theorem FileMine.pushSt {a : Sl (Sl Int)} (h : FileMine wi lo hi ⟨⟨A1, c1, cs⟩, ⟨A2, c2, ss⟩, ⟨A3, c3, ns⟩⟩) (ha : Mine rowsK wi hi wi.heap.size a) (hhi : hi ≤ wi.heap.size) (hlo : lo ≤ hi) (h4 : Below wi.heap.size wi W4) (hgrow : W4.grownBy w5 (Value.slice A2 ss.length c2).ownBlock)
    (hat : (Value.slice A2 ss.length c2).ownBlock = some g ∨ g = W4.heap.size) (hlt : g < w5.heap.size) (hown : Own hdC 76 1 w5 B (.slice (some ⟨g, 0, none⟩) (ss.length + 1) cap) (ss ++ [a])) :
    FileMine w5 lo w5.heap.size ⟨⟨A1, c1, cs⟩, ⟨some ⟨g, 0, none⟩, cap, ss ++ [a]⟩, ⟨A3, c3, ns⟩⟩ := by
  have hs := h4.size
  have hm := Mine.push (K := rowsK) (T := 0) rowsK_ok (a := a) h.st ha hhi hlo h4 hgrow hat hlt hown
  have d1 : ∀ b, (Value.slice A2 ss.length c2).ownBlock = some b → b ∈ stK.fp ⟨A2, c2, ss⟩ := fun b hb => Kd.fp_top (s := ⟨A2, c2, ss⟩) hb
  have key : ∀ b, b ∈ stK.fp (⟨some ⟨g, 0, none⟩, cap, ss ++ [a]⟩ : Sl (Sl (Sl Int))) → b ∈ stK.fp (⟨A2, c2, ss⟩ : Sl (Sl (Sl Int))) ∨ hi ≤ b := fun b hb => by
    rcases push_fp (K := rowsK) (T := 0) hat hb with h1 | h1 | h1
    · exact .inl h1
    · exact .inr (ha.rng b h1).1
    · exact .inr (by omega)
  exact ⟨h.ch.aside chsK_ok hhi h4 hgrow (fun b hb hb2 => h.d1 b hb2 (d1 b hb)), hm, h.no.aside nosK_ok hhi h4 hgrow (fun b hb => h.d3 b (d1 b hb)),
    fun b hb hb2 => by
      rcases key b hb2 with h1 | h1
      · exact h.d1 b hb h1
      · have := (h.ch.rng b hb).2; omega, h.d2,
    fun b hb hb2 => by
      rcases key b hb with h1 | h1
      · exact h.d3 b h1 hb2
      · have := (h.no.rng b hb2).2; omega⟩
end
theorem FileMine.set {w : World} {lo hi bF o : Nat} {f : Fl} {u : Value} (h : FileMine w lo hi f) (hb : bF < lo) : FileMine (w.setCell ⟨bF, o, none⟩ u) lo hi f := by
  have h0 : Below 0 w (w.setCell ⟨bF, o, none⟩ u) := (Below.refl 0 w).setCell (Nat.zero_le _) u
  exact h.chg (fp := [bF]) ⟨h0.os, h0.tape, h0.output, h0.size, fun k _ hn => Below.heap_setCell w ⟨bF, o, none⟩ u k (by simpa using hn)⟩ fun b hb2 => by
    have : b = bF := by simpa using hb2
    omega
theorem FileMine.low {w : World} {lo hi lo' hi' : Nat} {f : Fl} (h : FileMine w lo hi f) (hl : lo' ≤ lo) (hh : hi ≤ hi') : FileMine w lo' hi' f := ⟨h.ch.low hl hh, h.st.low hl hh, h.no.low hl hh, h.d1, h.d2, h.d3⟩
theorem FileMine.nil (w : World) (lo hi : Nat) : FileMine w lo hi ⟨⟨none, 0, []⟩, ⟨none, 0, []⟩, ⟨none, 0, []⟩⟩ :=
  ⟨Mine.nil _ _ _ _ _, Mine.nil _ _ _ _ _, Mine.nil _ _ _ _ _, fun b hb => by simp [chsK, Kd.sl, Sl.val, Value.ownBlock] at hb, fun b hb => by simp [chsK, Kd.sl, Sl.val, Value.ownBlock] at hb, fun b hb => by simp [stK, Kd.sl, Sl.val, Value.ownBlock] at hb⟩
theorem FileMine.drew {w : World} {lo hi : Nat} {f : Fl} (h : FileMine w lo hi f) : FileMine w.drew lo hi f := h.next (Below.drew (Below.refl _ _))

/-- the pieces of a text, each with its mark, are as long as the text and one -/
def sum1 (ps : List (List UInt8)) : Nat := (ps.map fun p => p.length + 1).sum
theorem split_sum (c : UInt8) : ∀ l : List UInt8, sum1 (splitL c l) = l.length + 1
  | [] => by simp [splitL, sum1]
  | b :: l => by
    have ih := split_sum c l
    obtain ⟨q, r, e⟩ : ∃ q r, splitL c l = q :: r := by
      cases h : splitL c l with
      | nil => exact absurd h (splitL_ne c l)
      | cons q r => exact ⟨q, r, rfl⟩
    rw [e] at ih
    unfold sum1 at ih ⊢
    rw [List.map_cons, List.sum_cons] at ih
    by_cases hb : b = c
    · rw [splitL, if_pos hb, e, List.map_cons, List.sum_cons, List.map_cons, List.sum_cons]
      simp only [List.length_nil, List.length_cons]
      omega
    · rw [splitL, if_neg hb, e]
      show (List.map (fun p => p.length + 1) ((b :: q) :: r)).sum = _
      rw [List.map_cons, List.sum_cons]
      simp only [List.length_cons]
      omega
theorem lines_sum {l : List UInt8} {L : List (List UInt8)} (h : linesD l = some L) : sum1 L ≤ l.length := by
  unfold linesD at h
  split at h
  · injection h with h; subst h; simp [sum1]
  · split at h
    · injection h with h
      subst h
      rw [split_sum, List.length_dropLast]
      rename_i h0 _
      have := List.length_pos_iff.2 h0
      omega
    · cases h
/-- sizes that a file which is being read keeps: m bytes are read -/
structure SzB (p : FlP) (m : Nat) : Prop where
  ch : p.ch.length ≤ m
  st : p.st.length ≤ m
  no : p.no.length ≤ m
  sum : cntJ p.st ≤ m
  rows : ∀ s ∈ p.st, s.length ≤ 1048576 ∧ (∀ r ∈ s, r.length ≤ 1048576) ∧ cntI s ≤ 1048576
  chs : ∀ c ∈ p.ch, c.name.size ≤ 1048576 ∧ c.unit.size ≤ 1048576
  nos : ∀ n ∈ p.no, n.text.size ≤ 1048576
theorem SzB.zero : SzB fl0 0 := ⟨by simp [fl0], by simp [fl0], by simp [fl0], by simp [fl0, cntJ], fun s hs => by simp [fl0] at hs, fun s hs => by simp [fl0] at hs, fun s hs => by simp [fl0] at hs⟩
theorem SzB.mono {p : FlP} {m m' : Nat} (h : SzB p m) (hm : m ≤ m') : SzB p m' := ⟨Nat.le_trans h.ch hm, Nat.le_trans h.st hm, Nat.le_trans h.no hm, Nat.le_trans h.sum hm, h.rows, h.chs, h.nos⟩
theorem nums_len (w : List UInt8) : (numsD w).length ≤ w.length + 1 := by
  unfold numsD
  rw [List.length_map]
  have := splitL_count 44 w
  exact this
theorem cntI_words (ws : List (List UInt8)) : cntI (ws.map numsD) ≤ sum1 ws := by
  induction ws with
  | nil => simp [cntI, sum1]
  | cons w ws ih =>
    have h1 := nums_len w
    unfold cntI sum1 at ih ⊢
    simp only [List.map_cons, List.sum_cons]
    omega
theorem sum1_tail (ws : List (List UInt8)) : sum1 ws.tail ≤ sum1 ws := by
  cases ws with
  | nil => simp
  | cons w ws => unfold sum1; simp only [List.tail_cons, List.map_cons, List.sum_cons]; omega
theorem sum1_len (ws : List (List UInt8)) : ws.length ≤ sum1 ws := by
  induction ws with
  | nil => simp [sum1]
  | cons w ws ih => unfold sum1 at ih ⊢; simp only [List.length_cons, List.map_cons, List.sum_cons]; omega
theorem sum1_mem {ws : List (List UInt8)} {w : List UInt8} (h : w ∈ ws) : w.length + 1 ≤ sum1 ws := by
  induction ws with
  | nil => cases h
  | cons x ws ih =>
    unfold sum1 at ih ⊢
    simp only [List.map_cons, List.sum_cons]
    rcases List.mem_cons.1 h with rfl | h
    · omega
    · have := ih h; omega
theorem getD_size {ws : List (List UInt8)} {m : Nat} (h : sum1 ws ≤ m) (k : Nat) : (ws.getD k []).length ≤ m := by
  by_cases hk : k < ws.length
  · have e : ws.getD k [] = ws[k] := by simp [List.getD_eq_getElem?_getD, List.getElem?_eq_getElem hk]
    rw [e]
    have := sum1_mem (List.getElem_mem hk)
    omega
  · have e : ws.getD k [] = [] := by rw [List.getD_eq_getElem?_getD, List.getElem?_eq_none (by omega)]; rfl
    rw [e]; simp
theorem SzB.line {p q : FlP} {m : Nat} {l : List UInt8} (h : SzB p m) (hl : l.length ≤ 1048575) (hq : iLine p (splitL 32 l) = some q) : SzB q (m + (l.length + 1)) := by
  have hs := split_sum 32 l
  obtain ⟨ws, hw⟩ : ∃ ws, splitL 32 l = ws := ⟨_, rfl⟩
  rw [hw] at hs hq
  clear hw
  have hs2 : sum1 ws ≤ 1048576 := by omega
  unfold iLine at hq
  split at hq
  · injection hq with hq
    subst hq
    refine ⟨by show (p.ch ++ [_]).length ≤ _; rw [List.length_append]; have := h.ch; simp; omega, Nat.le_trans h.st (by omega), Nat.le_trans h.no (by omega), Nat.le_trans h.sum (by omega), h.rows, fun c hc => ?_, h.nos⟩
    rcases List.mem_append.1 hc with hc | hc
    · exact h.chs c hc
    · rw [List.mem_singleton] at hc
      subst hc
      exact ⟨by show (bs _).size ≤ _; rw [bs_size]; exact getD_size hs2 1, by show (bs _).size ≤ _; rw [bs_size]; exact getD_size hs2 2⟩
  · split at hq
    · injection hq with hq
      subst hq
      have h1 := cntI_words ws.tail
      have h2 := sum1_tail ws
      refine ⟨Nat.le_trans h.ch (by omega), by show (p.st ++ [_]).length ≤ _; rw [List.length_append]; have := h.st; simp; omega, Nat.le_trans h.no (by omega), ?_, fun s hs3 => ?_, h.chs, h.nos⟩
      · show cntJ (p.st ++ [_]) ≤ _
        have h3 := h.sum
        unfold cntJ at h3 ⊢
        rw [List.map_append, List.sum_append]
        simp only [List.map_cons, List.map_nil, List.sum_cons, List.sum_nil]
        omega
      · rcases List.mem_append.1 hs3 with hs3 | hs3
        · exact h.rows s hs3
        · rw [List.mem_singleton] at hs3
          subst hs3
          refine ⟨?_, fun r hr => ?_, by omega⟩
          · rw [List.length_map]
            have h4 := sum1_len ws.tail
            omega
          · obtain ⟨x, hx, rfl⟩ := List.mem_map.1 hr
            have h4 := nums_len x
            have h5 := sum1_mem hx
            omega
    · split at hq
      · injection hq with hq
        subst hq
        refine ⟨Nat.le_trans h.ch (by omega), Nat.le_trans h.st (by omega), by show (p.no ++ [_]).length ≤ _; rw [List.length_append]; have := h.no; simp; omega, Nat.le_trans h.sum (by omega), h.rows, h.chs, fun c hc => ?_⟩
        rcases List.mem_append.1 hc with hc | hc
        · exact h.nos c hc
        · rw [List.mem_singleton] at hc
          subst hc
          show (bs _).size ≤ _
          rw [bs_size]; exact getD_size hs2 3
      · cases hq
theorem SzB.fold : ∀ {L : List (List UInt8)} {p q : FlP} {m : Nat}, SzB p m → (∀ l ∈ L, l.length ≤ 1048575) → foldO iLine p (L.map (splitL 32)) = some q → SzB q (m + sum1 L)
  | [], p, q, m, h, _, hq => by injection hq with hq; subst hq; exact h.mono (by omega)
  | l :: L, p, q, m, h, hL, hq => by
    rw [List.map_cons] at hq
    obtain ⟨r, h1, h2⟩ := foldO_some hq
    have h3 := h.line (hL l (by simp)) h1
    have h4 := SzB.fold h3 (fun x hx => hL x (List.mem_cons_of_mem _ hx)) h2
    have e : sum1 (l :: L) = (l.length + 1) + sum1 L := by unfold sum1; simp
    rw [e]
    exact h4.mono (by omega)
theorem SzB.pl {p : FlP} {m : Nat} (h : SzB p m) (hm : m ≤ 1048576) : PlSz p ∧ PlTx p :=
  ⟨⟨Nat.le_trans h.ch hm, Nat.le_trans h.st hm, fun s hs => ⟨(h.rows s hs).1, (h.rows s hs).2.1, Nat.le_trans (h.rows s hs).2.2 (by omega)⟩, Nat.le_trans h.sum (by omega), Nat.le_trans h.no hm⟩, ⟨h.chs, h.nos⟩⟩
end Go.Proofs.Ytmdmjnhebbhjbaa
