/-
  A file copied: what is made first, and how it grows.
-/
import Derived.Test.YtmdmjnhebbhjbaaClone
namespace Go.Proofs.Ytmdmjnhebbhjbaa
set_option linter.unusedSimpArgs false
set_option linter.unusedVariables false
set_option maxRecDepth 20000
open Go.RowKit
open Go.ChangeShapes Go.WideShapes Go.Deep Go.Joins

theorem Mine.of_own0 {α : Type} {f : α → List Value} {size : Nat} {E T : TypeId} {w : World} {lo n : Nat} {A : Option Addr} {c : Nat} {l : List α} (h : Own f E size w lo (.slice A n c) l) (hn : l.length = n) : Mine ((Kd.flat f size E).sl T) w lo w.heap.size ⟨A, c, l⟩ := by
  subst hn
  have z : ∀ L : List α, L.flatMap (fun _ => ([] : List Nat)) = [] := fun L => by simp
  have hfp : ((Kd.flat f size E).sl T).fp ⟨A, c, l⟩ = (Value.slice A l.length c).ownBlock.toList := by
    show (Value.slice A l.length c).ownBlock.toList ++ l.flatMap (fun _ => []) = _
    rw [z, List.append_nil]
  refine ⟨⟨h.mono (Nat.zero_le _), fun a _ => trivial⟩, ?_, fun b hb => ?_⟩
  · rw [hfp]
    cases (Value.slice A l.length c).ownBlock <;> simp
  · rw [hfp] at hb
    exact h.lt b (by simpa using hb)
theorem flat_fp {α : Type} {f : α → List Value} {size : Nat} {E T : TypeId} {A : Option Addr} {c n b : Nat} {l : List α} (hn : l.length = n) (hb : b ∈ ((Kd.flat f size E).sl T).fp ⟨A, c, l⟩) : (Value.slice A n c).ownBlock = some b := by
  subst hn
  have z : ∀ L : List α, L.flatMap (fun _ => ([] : List Nat)) = [] := fun L => by simp
  have hfp : ((Kd.flat f size E).sl T).fp ⟨A, c, l⟩ = (Value.slice A l.length c).ownBlock.toList := by
    show (Value.slice A l.length c).ownBlock.toList ++ l.flatMap (fun _ => []) = _
    rw [z, List.append_nil]
  rw [hfp] at hb
  simpa using hb
theorem st0_fp {b : Nat} (h : b ∈ stK.fp (⟨none, 0, []⟩ : Sl (Sl (Sl Int)))) : False := by simp [stK, Kd.sl, Sl.val, Value.ownBlock] at h
theorem file_own {w : World} {lo b3 n1 n3 c1 c3 : Nat} {A1 A3 : Option Addr} {cs : List Ch} {ns : List No} (h1 : Own chC 74 4 w lo (.slice A1 n1 c1) cs) (l1 : cs.length = n1) (h3 : Own noC 39 3 w lo (.slice A3 n3 c3) ns) (l3 : ns.length = n3)
    (hd : ∀ b, (Value.slice A1 n1 c1).ownBlock = some b → (Value.slice A3 n3 c3).ownBlock ≠ some b) (hb1 : (Value.slice A1 n1 c1).ownBlock ≠ some b3) (hb3 : (Value.slice A3 n3 c3).ownBlock ≠ some b3) :
    FileMine w lo w.heap.size ⟨⟨A1, c1, cs⟩, ⟨none, 0, []⟩, ⟨A3, c3, ns⟩⟩ ∧ ∀ b ∈ fileFp ⟨⟨A1, c1, cs⟩, ⟨none, 0, []⟩, ⟨A3, c3, ns⟩⟩, b ≠ b3 := by
  refine ⟨⟨Mine.of_own0 h1 l1, Mine.nil _ _ _ _ _, Mine.of_own0 h3 l3, fun b _ hb2 => st0_fp hb2, fun b hb hb2 => hd b (flat_fp l1 hb) (flat_fp l3 hb2), fun b hb => (st0_fp hb).elim⟩, fun b hb e => ?_⟩
  subst e
  rcases List.mem_append.1 hb with hb | hb
  · exact hb1 (flat_fp l1 hb)
  · rcases List.mem_append.1 hb with hb | hb
    · exact st0_fp hb
    · exact hb3 (flat_fp l3 hb)
theorem FileMine.besides {fp : List Nat} {w w' : World} {lo hi : Nat} {f : Fl} (h : FileMine w lo hi f) (hc : ChgF fp w w') (hd : ∀ b ∈ fileFp f, b ∉ fp) : FileMine w' lo hi f :=
  ⟨h.ch.chg chsK_ok hc fun b hb => hd b (mem_fp1 hb), h.st.chg stK_ok hc fun b hb => hd b (mem_fp2 hb), h.no.chg nosK_ok hc fun b hb => hd b (mem_fp3 hb), h.d1, h.d2, h.d3⟩
theorem pushSt_fp {C : Sl Ch} {N : Sl No} {A2 : Option Addr} {c2 : Nat} {ss : List (Sl (Sl Int))} {a : Sl (Sl Int)} {g cap M hi b : Nat} (ha : ∀ b ∈ rowsK.fp a, hi ≤ b) (hM : hi ≤ M) (hat : (Value.slice A2 ss.length c2).ownBlock = some g ∨ g = M) (hb : b ∈ fileFp ⟨C, ⟨some ⟨g, 0, none⟩, cap, ss ++ [a]⟩, N⟩) : b ∈ fileFp ⟨C, ⟨A2, c2, ss⟩, N⟩ ∨ hi ≤ b := by
  rcases List.mem_append.1 hb with hb | hb
  · exact .inl (mem_fp1 hb)
  · rcases List.mem_append.1 hb with hb | hb
    · rcases push_fp (K := rowsK) (T := 0) hat hb with h1 | h1 | h1
      · exact .inl (mem_fp2 h1)
      · exact .inr (ha b h1)
      · exact .inr (by omega)
    · exact .inl (mem_fp3 hb)
theorem rows_push3 {R : Sl (Sl Int)} {l : List (Sl Int)} {j : Nat} (hj : j < l.length) (h : rowsK.pl R = (l.take j).map rowK.pl) {y : Sl Int} (hy : y.l = l[j].l) {A : Option Addr} {c : Nat} : rowsK.pl ⟨A, c, R.l ++ [y]⟩ = (l.take (j + 1)).map rowK.pl := by
  have h1 : rowsK.pl ⟨A, c, R.l ++ [y]⟩ = rowsK.pl R ++ [l[j].l] := by
    show (R.l ++ [_]).map rowK.pl = R.l.map rowK.pl ++ [_]
    rw [List.map_append, List.map_singleton, rowK_pl, hy]
  rw [h1, h, List.take_succ_eq_append_getElem hj, List.map_append, List.map_singleton, rowK_pl]
theorem st_push3 {S : Sl (Sl (Sl Int))} {ss : List (Sl (Sl Int))} {k : Nat} (hk : k < ss.length) (h : S.l.map rowsK.pl = (ss.take k).map rowsK.pl) {R : Sl (Sl Int)} (hR : rowsK.pl R = rowsK.pl ss[k]) : (S.l ++ [R]).map rowsK.pl = (ss.take (k + 1)).map rowsK.pl := by
  rw [List.map_append, h, List.map_singleton, hR, List.take_succ_eq_append_getElem hk, List.map_append]
  rfl
end Go.Proofs.Ytmdmjnhebbhjbaa
