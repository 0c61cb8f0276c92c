/-
  A builder whose writing leaves given blocks as they are.
-/
import Derived.Test.YtinlhigpmchiaaaGreatDoorBuilder
namespace Go.Proofs.YtinlhigpmchiaaaGreatDoor
set_option linter.unusedSimpArgs false
set_option linter.unusedVariables false
set_option maxRecDepth 20000
open Go.RowKit

def BlK (K : Nat → Prop) (w : World) (b base : Nat) (l : List UInt8) : Prop :=
  ∃ p v, (p = .pointer none ∨ p = .pointer (some ⟨b, 0, none⟩)) ∧ w.heap[b]? = some (.cells #[p, v] 67 (0, 0)) ∧ w.ownsRow base 5 1 v l.length (byteRow l) ∧ v.ownBlock ≠ some b ∧ ∀ k, K k → v.ownBlock ≠ some k ∧ k ≠ b ∧ k < w.heap.size
structure ApK (K : Nat → Prop) (b base : Nat) (w w' : World) : Prop where
  ap : Apart b base w w'
  keep : ∀ k, K k → w'.heap[k]? = w.heap[k]?
theorem ApK.refl (K : Nat → Prop) (b base : Nat) (w : World) : ApK K b base w w := ⟨Apart.refl _ _ _, fun _ _ => rfl⟩
theorem ApK.trans {K : Nat → Prop} {b base : Nat} {x y z : World} (h : ApK K b base x y) (k : ApK K b base y z) : ApK K b base x z :=
  ⟨h.ap.trans k.ap, fun i hi => (k.keep i hi).trans (h.keep i hi)⟩
theorem ApK.weak {K K' : Nat → Prop} {b base : Nat} {x y : World} (h : ApK K b base x y) (hk : ∀ k, K' k → K k) : ApK K' b base x y := ⟨h.ap, fun i hi => h.keep i (hk i hi)⟩
theorem ApK.of_below {K : Nat → Prop} {b base B : Nat} {w w' : World} (h : Below B w w') (hB : base ≤ B) (hk : ∀ k, K k → k < B) : ApK K b base w w' :=
  ⟨Apart.of_below (h.mono hB), fun i hi => h.block i (hk i hi)⟩
theorem BlK.weak {K K' : Nat → Prop} {w : World} {b base : Nat} {l : List UInt8} (h : BlK K w b base l) (hk : ∀ k, K' k → K k) : BlK K' w b base l := by
  obtain ⟨p, v, h1, h2, h3, h4, h5⟩ := h
  exact ⟨p, v, h1, h2, h3, h4, fun k hkk => h5 k (hk k hkk)⟩
theorem BlK.lt {K : Nat → Prop} {w : World} {b base : Nat} {l : List UInt8} (h : BlK K w b base l) {k : Nat} (hk : K k) : k < w.heap.size := by
  obtain ⟨p, v, h1, h2, h3, h4, h5⟩ := h
  exact (h5 k hk).2.2
theorem BlK.bld {K : Nat → Prop} {w : World} {b base : Nat} {l : List UInt8} (h : BlK K w b base l) : Bld w b base l := by
  obtain ⟨p, v, h1, h2, h3, h4, h5⟩ := h
  exact ⟨p, v, h1, h2, h3, h4⟩
theorem Bld.blk {w : World} {b base : Nat} {l : List UInt8} (h : Bld w b base l) : BlK (fun _ => False) w b base l := by
  obtain ⟨p, v, h1, h2, h3, h4⟩ := h
  exact ⟨p, v, h1, h2, h3, h4, fun _ hk => hk.elim⟩
/-- what was made since the builder's last growth is none of its own -/
theorem BlK.more {K : Nat → Prop} {w w' : World} {b base : Nat} {l : List UInt8} (h : BlK K w b base l) (hB : Below w.heap.size w w') (hb : b < w.heap.size) :
    BlK (fun k => K k ∨ (w.heap.size ≤ k ∧ k < w'.heap.size)) w' b base l := by
  obtain ⟨p, v, hp, hbk, hown, hne, hK⟩ := h
  refine ⟨p, v, hp, (hB.block b hb).trans hbk, ?_, hne, ?_⟩
  · refine hown.kept (row := none) ⟨hB.os, hB.tape, hB.output, hB.size, fun k hk _ => hB.block k (by omega)⟩ ?_
    cases v.ownBlock <;> simp
  · intro k hk
    rcases hk with h1 | ⟨h1, h2⟩
    · obtain ⟨a1, a2, a3⟩ := hK k h1
      exact ⟨a1, a2, Nat.lt_of_lt_of_le a3 hB.size⟩
    · exact ⟨fun e => by have := (hown.lt k e).2; omega, by omega, h2⟩
theorem BlK.keep {K : Nat → Prop} {w w' : World} {b base : Nat} {l : List UInt8} (h : BlK K w b base l) (hB : Below w.heap.size w w') (hb : b < w.heap.size) : BlK K w' b base l :=
  (h.more hB hb).weak fun _ hk => .inl hk

theorem copyCheck_v (b base : Nat) (l : List UInt8) (p v : Value) (w : World) (hp : p = .pointer none ∨ p = .pointer (some ⟨b, 0, none⟩)) (hbk : w.heap[b]? = some (.cells #[p, v] 67 (0, 0)))
    (hown : w.ownsRow base 5 1 v l.length (byteRow l)) (hne : v.ownBlock ≠ some b) (hlt : b < base) :
    Calls Tryz.prog 57 #[.pointer (some ⟨b, 0, none⟩)] w fun e w' => e = .returned (.tuple #[]) ∧ w'.heap[b]? = some (.cells #[.pointer (some ⟨b, 0, none⟩), v] 67 (0, 0)) ∧ w'.ownsRow base 5 1 v l.length (byteRow l) ∧ Apart b base w w' ∧ w'.heap.size = w.heap.size ∧ ∀ k, k ≠ b → w'.heap[k]? = w.heap[k]? := by
  rcases hp with rfl | rfl
  · refine (copyCheck_fresh b w (by rw [Lib.cell_of_heap hbk]; rfl) (by simp [World.shape?, hbk]) (Lib.frozen_of_heap hbk 0)).mono ?_
    rintro e w' ⟨rfl, rfl⟩
    exact ⟨rfl, by simp [World.setCell, Array.getElem?_modify, hbk], ownsRow_setCell_below hown hlt _, ⟨rfl, rfl, rfl, by simp [World.setCell], fun k _ hk => Below.heap_setCell _ _ _ _ hk⟩, by simp [World.setCell], fun k hk => Below.heap_setCell _ _ _ _ hk⟩
  · refine (copyCheck_used b w (by rw [Lib.cell_of_heap hbk]; rfl)).mono ?_
    rintro e w' ⟨rfl, rfl⟩
    exact ⟨rfl, hbk, hown, Apart.refl _ _ _, rfl, fun _ _ => rfl⟩

section
variable {P : Program} {w : World}
/-- a row of bytes to which a string is appended lies where it lay, or anew -/
theorem str_lies (base : Nat) (t u ty e : TypeId) (i : TypeInfo) (ht : P.underlying t = some (.slice e)) (hu : P.underlying u = some .string) (hi : P.info? e = some i) (hz : i.zero = some (.int .u8 0))
    (hsize : i.size = 1) (hby : i.bytes = 1) (v : Value) (n : Nat) (xs : List Value) (hown : w.ownsRow base e 1 v n xs) (s : ByteArray)
    (h63 : n + s.size ≤ maxLen) (hbytes : n + s.size ≤ 140737488355328) {v' : Value} {w' : World} (hr : (Builtin.append_ #[t, u] ty #[v, .string s]).run P w = .ok v' w') :
    ∀ k, k < w.heap.size → v.ownBlock ≠ some k → v'.ownBlock ≠ some k := by
  rcases hown.2 with ⟨rfl, rfl⟩ | ⟨g, cap, cur, rfl, hbg, hgg, hnc, hcm, hcs, htake⟩
  · obtain ⟨v2, w2, hr2, h2, _, _⟩ := Lib.run_append_own_string (P := P) w w.heap.size t u ty e i ht hu hi hz hsize hby (.slice none 0 0) 0 [] (World.ownsRow_nil _ _ _ _) s h63 hbytes (Nat.le_refl _)
    rw [hr] at hr2
    injection hr2 with e1 e2
    subst e1 e2
    intro k hk _ e3
    have h4 := (h2.lt k e3).1
    have h5 : w.heap.size ≤ k := h4
    omega
  · by_cases hroom : n + s.size ≤ cap
    · have hr2 := Lib.run_append_room_string (P := P) w t u ty e i ht hu hi hsize g n cap cur hgg s hroom (by rw [hcs, Nat.mul_one]; exact hroom)
      rw [hr] at hr2
      injection hr2 with e1 e2
      subst e1
      intro k _ hne
      exact hne
    · have holds : ∀ j u, xs[j]? = some u → w.cell? ((⟨g, 0, none⟩ : Addr).add j) = some u := hown.cells (g := g) rfl
      have hsmall : n + s.size ≤ 9223372036854775807 := by simp only [maxLen] at h63; omega
      have hr2 := Lib.run_append_grow_string (P := P) w t u ty e i _ ht hu hi hz ⟨g, 0, none⟩ n cap xs (by rw [hsize]; exact hown.1) holds s (by omega) (by omega) (by rw [hby]; exact growslice_fits (by omega) (by omega))
      rw [hr] at hr2
      injection hr2 with e1 e2
      subst e1
      intro k hk _ e3
      have h4 : w.heap.size = k := by simpa [Value.ownBlock] using e3
      omega
theorem wpList_str {ops : Array Oper} {rest : List Oper} {o : Oper} {a : Act} {Q : Exit → Act → World → Prop} (hgd : o.guard = none) (sl x : Operand) (t u : TypeId)
    (ho : o.op = .call { callee := .builtin .append, args := #[sl, x], argTypes := #[t, u] })
    (base : Nat) (e : TypeId) (i : TypeInfo) (ht : P.underlying t = some (.slice e)) (hu : P.underlying u = some .string) (hi : P.info? e = some i) (hz : i.zero = some (.int .u8 0))
    (hsize : i.size = 1) (hby : i.bytes = 1)
    (v : Value) (n : Nat) (xs : List Value) (hs : a.eval sl = v) (hown : w.ownsRow base e 1 v n xs) (s : ByteArray) (hx : a.eval x = .string s)
    (h63 : n + s.size ≤ maxLen) (hbytes : n + s.size ≤ 140737488355328) (hbase : base ≤ w.heap.size)
    (h : ∀ v' w', w'.ownsRow base e 1 v' (n + s.size) (xs ++ Lib.strCells s) → w.grownBy w' v.ownBlock → (∀ k, k < w.heap.size → v.ownBlock ≠ some k → v'.ownBlock ≠ some k) → wpList P ops Q rest (a.put o.dst v') w') : wpList P ops Q (o :: rest) a w := by
  obtain ⟨v', w', hr, h2, h3, _⟩ := Lib.run_append_own_string (P := P) w base t u o.type e i ht hu hi hz hsize hby v n xs hown s h63 hbytes hbase
  have h5 := str_lies (P := P) (w := w) base t u o.type e i ht hu hi hz hsize hby v n xs hown s h63 hbytes hr
  refine wpList_plain hgd fun K hK => ?_
  unfold Oper.wp execOp
  simp only [ho, resolve, invoke, builtin, Sem.run_bind, Sem.run_pure, Result.andThen_ok, List.map_toArray, List.map_cons, List.map_nil, hs, hx, hr]
  exact hK _ _ (h v' w' h2 h3 h5)
end

set_option maxHeartbeats 2000000 in
set_option maxRecDepth 100000 in
theorem writeK_any (K : Nat → Prop) (b base : Nat) (l : List UInt8) (s : ByteArray) (w : World) (h : BlK K w b base l) (hlt : b < base) (hbw : base ≤ w.heap.size) (hlen : l.length + s.size ≤ 140737488355328) :
    Calls Tryz.prog 34 #[.pointer (some ⟨b, 0, none⟩), .string s] w fun e w' => e = .returned (.tuple #[.int .i64 s.size, .nilIface]) ∧ BlK K w' b base (l ++ s.data.toList) ∧ ApK K b base w w' := by
  obtain ⟨i0, hi, hz0, hz1, hz2⟩ := info_parts byte_info
  obtain ⟨p, v, hp, hbk0, hown0, hne, hK⟩ := h
  go_enter Tryz.func34, Tryz.ntmps34
  go_wp2_with (go_at_call 57; refine (copyCheck_v b base l p v _ hp hbk0 hown0 hne hlt).mono ?_)
  rintro e w1 ⟨rfl, hbk, hown, hA, hsz1, hoth⟩
  have c0 : w1.cell? ⟨b, 0, none⟩ = some (.pointer (some ⟨b, 0, none⟩)) := by rw [Lib.cell_of_heap hbk]; rfl
  have c1 : w1.cell? ⟨b, 1, none⟩ = some v := by rw [Lib.cell_of_heap hbk]; rfl
  have hz := hA.size
  have HK := Lib.hid hK
  have HO := Lib.hid hoth
  have HS := Lib.hid hsz1
  clear hK hoth hsz1
  go_wp2_with (at_builtin; refine wpList_str rfl _ _ 54 9 rfl base 5 i0 Tryz.underlying54 Tryz.underlying9 hi hz0 hz1 hz2 _ _ _ rfl hown s rfl ?c3 ?c4 ?c5 ?_)
  case c3 => unfold maxLen; omega
  case c4 => omega
  case c5 => omega
  intro v' w2 hown' hgrow hlie
  have hb1 : b < w1.heap.size := by omega
  have hb2 : w2.heap[b]? = some (.cells #[.pointer (some ⟨b, 0, none⟩), v] 67 (0, 0)) := by
    rw [hgrow.block b hb1 (fun e => hne e.symm)]
    exact hbk
  have d0 : w2.cell? ⟨b, 0, none⟩ = some (.pointer (some ⟨b, 0, none⟩)) := by rw [Lib.cell_of_heap hb2]; rfl
  have d1 : w2.cell? ⟨b, 1, none⟩ = some v := by rw [Lib.cell_of_heap hb2]; rfl
  have f1 : w2.frozen? ⟨b, 1, none⟩ = false := Lib.frozen_of_heap hb2 1
  have hA2 : Apart b base w w2 := hA.trans ⟨hgrow.os, hgrow.tape, hgrow.output, hgrow.size, fun k hk _ => hgrow.block k (by omega) (fun e => by have := (hown.lt k e.symm).1; omega)⟩
  have HK2 : Hid (∀ k, K k → v'.ownBlock ≠ some k ∧ k ≠ b ∧ k < w2.heap.size ∧ w2.heap[k]? = w.heap[k]?) := fun k hk => by
    obtain ⟨a1, a2, a3⟩ := HK.out k hk
    have h1 : k < w1.heap.size := by rw [HS.out]; exact a3
    exact ⟨hlie k h1 a1, a2, Nat.lt_of_lt_of_le h1 hgrow.size, (hgrow.block k h1 (fun e => a1 e.symm)).trans (HO.out k a2)⟩
  obtain ⟨ao, n', cap, rfl⟩ : ∃ ao n' cap, v' = .slice ao n' cap := by
    rcases hown'.2 with ⟨hv, _⟩ | ⟨g, cap, cur, hv, _⟩
    · exact ⟨_, _, _, hv⟩
    · exact ⟨_, _, _, hv⟩
  have hown2 : w2.ownsRow base 5 1 (.slice ao n' cap) (l ++ s.data.toList).length (byteRow (l ++ s.data.toList)) := by
    rw [byteRow_append, List.length_append]
    have e : s.data.toList.length = s.size := by simp
    rw [e]
    exact hown'
  have hne2 : (Value.slice ao n' cap).ownBlock ≠ some b := fun e => by have := (hown2.lt b e).1; omega
  have H2 := Lib.hid hown2
  have H3 := Lib.hid hne2
  clear hown' hgrow hown hown2 hne2 hlie HK HO HS hown0
  go_wp2
  go_ret2
  refine ⟨rfl, ⟨_, _, .inr rfl, ?_, ownsRow_setCell_below H2.out hlt _, H3.out, fun k hk => ?_⟩, ⟨hA2.trans ⟨rfl, rfl, rfl, by simp [World.setCell], fun k _ hk => Below.heap_setCell _ _ _ _ hk⟩, fun k hk => ?_⟩⟩
  · simp [World.setCell, Array.getElem?_modify, hb2]
  · obtain ⟨a1, a2, a3, _⟩ := HK2.out k hk
    exact ⟨a1, a2, by simpa [World.setCell] using a3⟩
  · obtain ⟨_, a2, _, a4⟩ := HK2.out k hk
    exact (Below.heap_setCell _ _ _ _ a2).trans a4
end Go.Proofs.YtinlhigpmchiaaaGreatDoor
