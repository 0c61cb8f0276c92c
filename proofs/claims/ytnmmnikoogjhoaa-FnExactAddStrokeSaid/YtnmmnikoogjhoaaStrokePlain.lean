/-
  What is measured of a valid stroke, in plain words.
-/
import Derived.Test.YtnmmnikoogjhoaaValid
import Derived.Test.YtnmmnikoogjhoaaLength
import Derived.Test.YtnmmnikoogjhoaaBoxes
namespace Go.Proofs.Ytnmmnikoogjhoaa
set_option linter.unusedSimpArgs false
set_option linter.unusedVariables false
set_option maxRecDepth 20000
open Go.RowKit

theorem getD_at {l : List Pt} {k : Nat} (h : k < l.length) : l.getD k default = l[k] := by simp [List.getD, h]
/-- every point may be one -/
def ptsB (l : List Pt) : Prop := ∀ (j : Nat) (hj : j < l.length), ptB l[j] = true
theorem prod_nn {a b : Int} (ha : 0 ≤ a ∧ a ≤ 4095) (hb : 0 ≤ b ∧ b ≤ 4095) : 0 ≤ a * b ∧ a * b ≤ 16769025 := by
  refine ⟨Int.mul_nonneg ha.1 hb.1, ?_⟩
  have h1 : a * b ≤ 4095 * b := Int.mul_le_mul_of_nonneg_right ha.2 hb.1
  omega

/-- twice the area, up to segment k -/
def areaTerm (p q : Pt) : Int := p.x * q.y - p.y * q.x
def areaTo (l : List Pt) : Nat → Int
  | 0 => 0
  | k + 1 => areaTo l k + areaTerm (l.getD k default) (l.getD ((k + 1) % l.length) default)
theorem areaTerm_bd {p q : Pt} (hp : ptB p = true) (hq : ptB q = true) : (0 ≤ p.x * q.y ∧ p.x * q.y ≤ 16769025) ∧ (0 ≤ p.y * q.x ∧ p.y * q.x ≤ 16769025) := by
  obtain ⟨h1, h2, _⟩ := ptB_true hp
  obtain ⟨h3, h4, _⟩ := ptB_true hq
  exact ⟨prod_nn h1 h4, prod_nn h2 h3⟩
theorem areaTo_next {l : List Pt} {k q : Nat} (hk : k < l.length) (hq : q < l.length) (h : (k + 1) % l.length = q) : areaTo l (k + 1) = areaTo l k + (l[k].x * l[q].y - l[k].y * l[q].x) := by
  rw [areaTo, h, getD_at hk, getD_at hq]
  rfl
theorem areaTo_bd {l : List Pt} (hp : ptsB l) : ∀ k, k ≤ l.length → -16769025 * (k : Int) ≤ areaTo l k ∧ areaTo l k ≤ 16769025 * (k : Int)
  | 0, _ => by simp [areaTo]
  | k + 1, hk => by
    have ih := areaTo_bd hp k (by omega)
    have hq : (k + 1) % l.length < l.length := Nat.mod_lt _ (by omega)
    obtain ⟨h1, h2⟩ := areaTerm_bd (hp k hk) (hp _ hq)
    rw [areaTo_next hk hq rfl]
    omega

/-- the longest pause among the first k -/
def pauseOf (l : List Pt) (k : Nat) : Int := (l.getD (k + 1) default).t - (l.getD k default).t
def pauseBest (l : List Pt) : Nat → Nat
  | 0 => 0
  | k + 1 => if pauseOf l (pauseBest l k) < pauseOf l k then k else pauseBest l k
theorem pauseBest_lt (l : List Pt) : ∀ k, 0 < k → pauseBest l k < k
  | 0, h => absurd h (by omega)
  | k + 1, _ => by
    unfold pauseBest
    split
    · omega
    · rcases Nat.eq_zero_or_pos k with h0 | h0
      · subst h0; simp [pauseBest]
      · have := pauseBest_lt l k h0; omega
theorem pauseOf_is {l : List Pt} {k : Nat} (h : k + 1 < l.length) : pauseOf l k = l[k + 1].t - l[k].t := by
  rw [pauseOf, getD_at h, getD_at (by omega)]

/-- the nearest among the first k -/
theorem distI_comm (a b : Pt) : distI a b = distI b a := by
  unfold distI
  have e1 : (a.x - b.x) * (a.x - b.x) = (b.x - a.x) * (b.x - a.x) := by
    rw [show a.x - b.x = -(b.x - a.x) by omega, Int.neg_mul_neg]
  have e2 : (a.y - b.y) * (a.y - b.y) = (b.y - a.y) * (b.y - a.y) := by
    rw [show a.y - b.y = -(b.y - a.y) by omega, Int.neg_mul_neg]
  rw [e1, e2]
def nearBest (l : List Pt) (p : Pt) : Nat → Nat
  | 0 => 0
  | k + 1 => if distI p (l.getD k default) < distI p (l.getD (nearBest l p k) default) then k else nearBest l p k
theorem nearBest_lt (l : List Pt) (p : Pt) : ∀ k, 0 < k → nearBest l p k < k
  | 0, h => absurd h (by omega)
  | k + 1, _ => by
    unfold nearBest
    split
    · omega
    · rcases Nat.eq_zero_or_pos k with h0 | h0
      · subst h0; simp [nearBest]
      · have := nearBest_lt l p k h0; omega

/-- the box of the first point and of the first k -/
def ptBx (p : Pt) : Bx := ⟨p.x, p.y, p.x, p.y⟩
def boxTo (l : List Pt) : Nat → Bx
  | 0 => ptBx (l.getD 0 default)
  | k + 1 => joinB (boxTo l k) (ptBx (l.getD k default))
theorem boxTo_one (l : List Pt) : boxTo l 1 = boxTo l 0 := by
  simp [boxTo, joinB, minI, maxI, ptBx]

/-- the length up to point k -/
def sumTo (l : List Pt) : Nat → Int
  | 0 => 0
  | k + 1 => sumTo l k + lenI (l.getD k default) (l.getD (k + 1) default)
theorem sumTo_next {l : List Pt} {k : Nat} (hk : k + 1 < l.length) : sumTo l (k + 1) = sumTo l k + lenI l[k] l[k + 1] := by
  rw [sumTo, getD_at hk, getD_at (by omega)]
theorem sumTo_bd {l : List Pt} (hp : ptsB l) : ∀ k, k < l.length → 0 ≤ sumTo l k ∧ sumTo l k ≤ 92660 * (k : Int)
  | 0, _ => by simp [sumTo]
  | k + 1, hk => by
    have ih := sumTo_bd hp k (by omega)
    have hl := len_bd (hp k (by omega)) (hp (k + 1) hk)
    rw [sumTo_next hk]
    omega
end Go.Proofs.Ytnmmnikoogjhoaa
