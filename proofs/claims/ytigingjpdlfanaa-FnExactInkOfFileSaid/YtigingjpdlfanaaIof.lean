/-
  The ink of a file: what program and reference answer, as one plain function.
-/
import Derived.Test.YtigingjpdlfanaaIofI
import Derived.Test.YtigingjpdlfanaaIofA
import Derived.Test.YtigingjpdlfanaaIofA2
import Derived.Test.YtigingjpdlfanaaIofA3
import Derived.Test.YtigingjpdlfanaaIofS
import Derived.Test.YtigingjpdlfanaaIofB
namespace Go.Proofs.Ytigingjpdlfanaa
set_option linter.unusedSimpArgs false
set_option linter.unusedVariables false
set_option maxRecDepth 20000
open Go.RowKit
open Go.ChangeShapes Go.WideShapes Go.Deep Go.Joins

theorem facI_cases (u : ByteArray) : facI u = 0 ∨ (facI u = 1 ∧ (u.toList == [109, 115]) = true) ∨ (facI u = 10 ∧ (u.toList == [109, 115]) = false ∧ (u.toList == [99, 115]) = true) ∨ (facI u = 1000 ∧ (u.toList == [109, 115]) = false ∧ (u.toList == [99, 115]) = false ∧ (u.toList == [115]) = true) := by
  unfold facI
  cases h1 : (u.toList == [109, 115])
  · cases h2 : (u.toList == [99, 115])
    · cases h3 : (u.toList == [115])
      · left; rfl
      · right; right; right; exact ⟨rfl, rfl, rfl, rfl⟩
    · right; right; left; exact ⟨rfl, rfl, rfl⟩
  · right; left; exact ⟨rfl, rfl⟩
theorem iofR_two {p : FlP} {f : Fl} {x y t : Nat} {k : Int} (hp : filePl f = p) (h : facI (p.ch.getD t ch0).unit = k) (hk : k ≠ 0) : iofR true p x y t = (if inkB (iofT f.ch.l x y t k f.st.l) = true then (iofT f.ch.l x y t k f.st.l, 0) else ([], 2)) := by
  subst hp
  have e : iofP (filePl f).ch x y t k (filePl f).st = iofT f.ch.l x y t k f.st.l := iofT_pl f.st.l
  cases hv : inkB (iofT f.ch.l x y t k f.st.l)
  · rw [iofR_out h hk (by rw [e]; exact hv)]; rfl
  · rw [iofR_yes h hk (by rw [e]; exact hv), e]; rfl
def IofPost (w : World) (L : List (List Pt)) (N : Nat) (code : Int) (e : Ending) (w' : World) : Prop :=
  ∃ A2 c2 T, e = .returned (.tuple #[.agg #[.slice A2 N c2], .int .i64 code]) ∧ ptsOf T = L ∧ InkOwn w' w.heap.size w'.heap.size (.slice A2 N c2) T ∧ Below w.heap.size w w'
theorem iIof_L (f : Fl) (p : FlP) (L : List (List Pt)) (N : Nat) (code : Int) (b : Bool) (x y t : Int) (w : World) (h : FileRd w f) (hp : filePl f = p) (hs : PlSz p) (ht : PlTx p) (hb : Is b (FileOk p)) (hx : Hid (idxZ p.ch ⟨#[120]⟩ = x)) (hy : Hid (idxZ p.ch ⟨#[121]⟩ = y)) (ht0 : Hid (idxZ p.ch ⟨#[116]⟩ = t)) (hR : Hid (iofR b p x y t = (L, code))) (hN : Hid (L.length = N)) :
    Calls Try.prog 43 #[.agg #[.slice f.ch.A f.ch.l.length f.ch.c, .slice f.st.A f.st.l.length f.st.c, .slice f.no.A f.no.l.length f.no.c]] w (IofPost w L N code) := by
  cases b
  · exact iIof_bad f p L N code hb x y t hR w h hp hs ht hN
  · by_cases hno : 0 ≤ x ∧ 0 ≤ y ∧ 0 ≤ t
    · obtain ⟨h1, h2, h3⟩ := hno
      obtain ⟨x, rfl⟩ : ∃ n : Nat, x = (n : Int) := ⟨x.toNat, by omega⟩
      obtain ⟨y, rfl⟩ : ∃ n : Nat, y = (n : Int) := ⟨y.toNat, by omega⟩
      obtain ⟨t, rfl⟩ : ∃ n : Nat, t = (n : Int) := ⟨t.toNat, by omega⟩
      obtain ⟨u0, hu⟩ : ∃ u, (p.ch.getD t ch0).unit = u := ⟨_, rfl⟩
      rcases facI_cases u0 with hk | ⟨hk, g⟩ | ⟨hk, g⟩ | ⟨hk, g⟩
      · exact iIof_unit f p L N code hb x y t hx hy ht0 u0 hu hk hR w h hp hs ht hN
      · exact iIof_1 f p L N code hb x y t hx hy ht0 u0 hu g _ rfl (by rw [Hid, ← iofR_two hp (by rw [hu]; exact hk) (by omega)]; exact hR.out) w h hp hs ht hN
      · exact iIof_10 f p L N code hb x y t hx hy ht0 u0 hu g _ rfl (by rw [Hid, ← iofR_two hp (by rw [hu]; exact hk) (by omega)]; exact hR.out) w h hp hs ht hN
      · exact iIof_1000 f p L N code hb x y t hx hy ht0 u0 hu g _ rfl (by rw [Hid, ← iofR_two hp (by rw [hu]; exact hk) (by omega)]; exact hR.out) w h hp hs ht hN
    · exact iIof_none f p L N code hb x y t hx hy ht0 hno hR w h hp hs ht hN
theorem sIof_L (f : Fl) (p : FlP) (L : List (List Pt)) (N : Nat) (code : Int) (b : Bool) (x y t : Int) (w : World) (h : FileRd w f) (hp : filePl f = p) (hs : PlSz p) (ht : PlTx p) (hb : Is b (FileOk p)) (hx : Hid (idxZ p.ch ⟨#[120]⟩ = x)) (hy : Hid (idxZ p.ch ⟨#[121]⟩ = y)) (ht0 : Hid (idxZ p.ch ⟨#[116]⟩ = t)) (hR : Hid (iofR b p x y t = (L, code))) (hN : Hid (L.length = N)) :
    Calls Try.prog 42 #[.agg #[.slice f.ch.A f.ch.l.length f.ch.c, .slice f.st.A f.st.l.length f.st.c, .slice f.no.A f.no.l.length f.no.c]] w (IofPost w L N code) := by
  cases b
  · exact sIof_bad f p L N code hb x y t hR w h hp hs ht hN
  · by_cases hno : 0 ≤ x ∧ 0 ≤ y ∧ 0 ≤ t
    · obtain ⟨h1, h2, h3⟩ := hno
      obtain ⟨x, rfl⟩ : ∃ n : Nat, x = (n : Int) := ⟨x.toNat, by omega⟩
      obtain ⟨y, rfl⟩ : ∃ n : Nat, y = (n : Int) := ⟨y.toNat, by omega⟩
      obtain ⟨t, rfl⟩ : ∃ n : Nat, t = (n : Int) := ⟨t.toNat, by omega⟩
      obtain ⟨u0, hu⟩ : ∃ u, (p.ch.getD t ch0).unit = u := ⟨_, rfl⟩
      rcases facI_cases u0 with hk | ⟨hk, g⟩ | ⟨hk, g⟩ | ⟨hk, g⟩
      · exact sIof_unit f p L N code hb x y t hx hy ht0 u0 hu hk hR w h hp hs ht hN
      · exact sIof_good f p L N code hb x y t hx hy ht0 u0 hu 1 hk (by omega) _ rfl (by rw [Hid, ← iofR_two hp (by rw [hu]; exact hk) (by omega)]; exact hR.out) w h hp hs ht hN
      · exact sIof_good f p L N code hb x y t hx hy ht0 u0 hu 10 hk (by omega) _ rfl (by rw [Hid, ← iofR_two hp (by rw [hu]; exact hk) (by omega)]; exact hR.out) w h hp hs ht hN
      · exact sIof_good f p L N code hb x y t hx hy ht0 u0 hu 1000 hk (by omega) _ rfl (by rw [Hid, ← iofR_two hp (by rw [hu]; exact hk) (by omega)]; exact hR.out) w h hp hs ht hN
    · exact sIof_none f p L N code hb x y t hx hy ht0 hno hR w h hp hs ht hN
end Go.Proofs.Ytigingjpdlfanaa
