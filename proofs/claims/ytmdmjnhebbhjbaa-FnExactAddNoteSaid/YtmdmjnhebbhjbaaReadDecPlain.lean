/-
  Reading a decimal text, in plain words: what the reference's digits give is what the library's parser gives.
-/
import Derived.Test.YtmdmjnhebbhjbaaStra
import Derived.Lib.ParseIntB
import Derived.Lib.Strings
namespace Go.Proofs.Ytmdmjnhebbhjbaa
set_option linter.unusedSimpArgs false
set_option linter.unusedVariables false
set_option maxRecDepth 20000
open Go.RowKit

def isDg (c : UInt8) : Bool := decide (48 ≤ c.toNat ∧ c.toNat ≤ 57)
def valF (a : Nat) (l : List UInt8) : Nat := l.foldl (fun n c => n * 10 + (c.toNat - 48)) a
def valD (l : List UInt8) : Nat := valF 0 l
theorem valD_snoc (l : List UInt8) (c : UInt8) : valD (l ++ [c]) = valD l * 10 + (c.toNat - 48) := by simp [valD, valF]
theorem valD_take {l : List UInt8} {k : Nat} (h : k < l.length) : valD (l.take (k + 1)) = valD (l.take k) * 10 + (l[k].toNat - 48) := by rw [List.take_succ_eq_append_getElem h, valD_snoc]
theorem valF_bd : ∀ (l : List UInt8) (k a : Nat), l.all isDg = true → a < 10 ^ k → valF a l < 10 ^ (k + l.length)
  | [], k, a, _, ha => ha
  | c :: r, k, a, h, ha => by
    rw [List.all_cons, Bool.and_eq_true] at h
    have h1 := of_decide_eq_true h.1
    have h2 : a * 10 + (c.toNat - 48) < 10 ^ (k + 1) := by rw [Nat.pow_succ]; omega
    have h3 := valF_bd r (k + 1) _ h.2 h2
    rw [List.length_cons, show k + (r.length + 1) = k + 1 + r.length by omega]
    exact h3
theorem valD_bd {l : List UInt8} (h : l.all isDg = true) : valD l < 10 ^ l.length := by
  have h1 := valF_bd l 0 0 h (by decide)
  rw [Nat.zero_add] at h1
  exact h1
theorem p10_le {k : Nat} (h : k ≤ 18) : 10 ^ k ≤ 1000000000000000000 := Nat.pow_le_pow_right (n := 10) (by omega) h
theorem p10_le17 {k : Nat} (h : k ≤ 17) : 10 ^ k ≤ 100000000000000000 := Nat.pow_le_pow_right (n := 10) (by omega) h
theorem parseM : ∀ (r : List UInt8) (k acc : Nat), acc < 10 ^ k → k + r.length ≤ 18 → Lib.parseUintM (2 ^ 64 - 1) acc r = if r.all isDg then .ok (valF acc r) else .syntax
  | [], k, acc, _, _ => by rw [Lib.parseUintM]; rfl
  | c :: r, k, acc, ha, hk => by
    rw [List.length_cons] at hk
    rw [Lib.parseUintM, List.all_cons]
    by_cases hc : 48 ≤ c.toNat ∧ c.toNat ≤ 57
    · have e : isDg c = true := decide_eq_true hc
      have h17 := p10_le17 (k := k) (by omega)
      have h2 : acc * 10 + (c.toNat - 48) < 10 ^ (k + 1) := by rw [Nat.pow_succ]; omega
      rw [if_pos hc, if_neg (by omega), if_neg (by omega), parseM r (k + 1) _ h2 (by omega), e, Bool.true_and]
      rfl
    · have e : isDg c = false := decide_eq_false hc
      rw [if_neg hc, e, Bool.false_and]
      rfl
theorem parseU {l : List UInt8} (h0 : l ≠ []) (h : l.length ≤ 18) : Lib.parseUintB 64 l = if l.all isDg then .ok (valD l) else .syntax := by
  rw [Lib.parseUintB, if_neg h0]
  exact parseM l 0 0 (by decide) (by omega)

def negD (l : List UInt8) : Bool := match l with
  | [] => false
  | c :: _ => c == 45
def tailD (l : List UInt8) : List UInt8 := if negD l then l.tail else l
def numD (l : List UInt8) : Int := if negD l then -(valD (tailD l) : Int) else (valD (tailD l) : Int)
def decR (l : List UInt8) : Int × Bool := if (1 ≤ (tailD l).length ∧ (tailD l).length ≤ 18) ∧ (tailD l).all isDg = true ∧ Lib.itoa (numD l) = l then (numD l, true) else (0, false)
theorem trim_is (l : List UInt8) : Lib.trimPrefix l [45] = tailD l := by
  cases l with
  | nil => rfl
  | cons c r =>
    by_cases h : c = 45
    · subst h
      simp [Lib.trimPrefix, Lib.hasPrefix, tailD, negD]
    · simp [Lib.trimPrefix, Lib.hasPrefix, tailD, negD, h, Ne.symm h]
theorem u8_dg {m : Nat} : isDg (UInt8.ofNat (48 + m % 10)) = true := by
  have h : m % 10 < 10 := Nat.mod_lt _ (by omega)
  apply decide_eq_true
  rw [UInt8.toNat_ofNat']
  omega
theorem digs_dg (m : Nat) : (digs m).all isDg = true := by
  induction m using Nat.strongRecOn with
  | _ m ih =>
    rcases Nat.eq_zero_or_pos m with e | e
    · subst e; rw [digs_zero]; rfl
    · rw [digs_pos e, List.all_append, ih (m / 10) (by omega), List.all_cons, u8_dg]; rfl
theorem itoa_plus (n : Int) (r : List UInt8) : Lib.itoa n ≠ 43 :: r := by
  intro e
  rcases Int.lt_trichotomy n 0 with h | h | h
  · obtain ⟨m, hm⟩ : ∃ m : Nat, n = -(m : Int) := ⟨n.natAbs, by omega⟩
    subst hm
    rw [itoa_neg (by omega)] at e
    injection e with e1 _
    exact absurd e1 (by decide)
  · subst h
    rw [itoa_zero] at e
    injection e with e1 _
    exact absurd e1 (by decide)
  · obtain ⟨m, hm⟩ : ∃ m : Nat, n = (m : Int) := ⟨n.toNat, by omega⟩
    subst hm
    rw [itoa_nat (by omega)] at e
    have h1 := digs_dg m
    rw [e, List.all_cons] at h1
    simp [isDg] at h1
theorem negD_cons {c : UInt8} {r : List UInt8} : negD (c :: r) = (c == 45) := rfl
theorem toNat_45 {c : UInt8} : c.toNat = 45 ↔ c = 45 := ⟨fun h => UInt8.toNat_inj.1 h, fun h => by rw [h]; rfl⟩
theorem toNat_43 {c : UInt8} : c.toNat = 43 ↔ c = 43 := ⟨fun h => UInt8.toNat_inj.1 h, fun h => by rw [h]; rfl⟩
theorem numD_bd {l : List UInt8} (h : (tailD l).length ≤ 18) (hd : (tailD l).all isDg = true) : -1000000000000000000 < numD l ∧ numD l < 1000000000000000000 := by
  have h1 := valD_bd hd
  have h2 := p10_le h
  unfold numD
  split <;> omega
/-- what the library's parser gives at a text of 1 to 18 places behind its sign -/
theorem parse_is {l : List UInt8} (h0 : 1 ≤ (tailD l).length) (h1 : (tailD l).length ≤ 18) :
    ((tailD l).all isDg = true ∧ Lib.parseIntB 64 l = .ok (numD l)) ∨ ((tailD l).all isDg = false ∧ (Lib.parseIntB 64 l = .syntax ∨ ∃ v, Lib.parseIntB 64 l = .ok v ∧ (-9223372036854775808 ≤ v ∧ v ≤ 9223372036854775807) ∧ Lib.itoa v ≠ l)) := by
  cases l with
  | nil => simp [tailD, negD] at h0
  | cons c r =>
    by_cases hc : c = 45
    · subst hc
      have e : tailD (45 :: r) = r := rfl
      have e2 : numD (45 :: r) = -(valD r : Int) := rfl
      rw [e] at h0 h1 ⊢
      rw [e2]
      have hr : r ≠ [] := by intro x; subst x; simp at h0
      have hp := parseU hr h1
      cases hd : r.all isDg
      · right
        refine ⟨rfl, .inl ?_⟩
        rw [hd] at hp
        simp [Lib.parseIntB, hp]
      · left
        refine ⟨rfl, ?_⟩
        rw [hd] at hp
        have h2 := valD_bd hd
        have h3 := p10_le h1
        simp [Lib.parseIntB, hp]
        omega
    · have hcn : ¬ c.toNat = 45 := fun e => hc (toNat_45.1 e)
      have hng : negD (c :: r) = false := by rw [negD_cons]; simp [hc]
      have e : tailD (c :: r) = c :: r := by unfold tailD; rw [hng]; rfl
      have e2 : numD (c :: r) = (valD (c :: r) : Int) := by unfold numD; rw [hng, e]; rfl
      rw [e] at h0 h1 ⊢
      rw [e2]
      by_cases hp43 : c = 43
      · subst hp43
        right
        refine ⟨by simp [isDg], ?_⟩
        by_cases hr : r = []
        · left; subst hr; rfl
        · have hp := parseU hr (by rw [List.length_cons] at h1; omega)
          cases hd : r.all isDg
          · left
            rw [hd] at hp
            simp [Lib.parseIntB, hp]
          · right
            rw [hd] at hp
            have h2 := valD_bd hd
            have h3 := p10_le (k := r.length) (by rw [List.length_cons] at h1; omega)
            refine ⟨(valD r : Int), ?_, by omega, itoa_plus _ _⟩
            simp [Lib.parseIntB, hp]
            omega
      · have hcp : ¬ c.toNat = 43 := fun e => hp43 (toNat_43.1 e)
        have hp := parseU (l := c :: r) (by simp) h1
        cases hd : (c :: r).all isDg
        · right
          refine ⟨rfl, .inl ?_⟩
          rw [hd] at hp
          simp [Lib.parseIntB, hcn, hcp, hp]
        · left
          refine ⟨rfl, ?_⟩
          rw [hd] at hp
          have h2 := valD_bd hd
          have h3 := p10_le h1
          simp [Lib.parseIntB, hcn, hcp, hp]
          omega
theorem decR_len {l : List UInt8} (h : ¬ (1 ≤ (tailD l).length ∧ (tailD l).length ≤ 18)) : decR l = (0, false) := by rw [decR, if_neg (fun x => h x.1)]
theorem decR_dg {l : List UInt8} (h : (tailD l).all isDg = false) : decR l = (0, false) := by rw [decR, if_neg (fun x => by rw [h] at x; exact absurd x.2.1 (by simp))]
theorem decR_txt {l : List UInt8} (h : Lib.itoa (numD l) ≠ l) : decR l = (0, false) := by rw [decR, if_neg (fun x => h x.2.2)]
theorem decR_ok {l : List UInt8} (h0 : 1 ≤ (tailD l).length) (h1 : (tailD l).length ≤ 18) (h2 : (tailD l).all isDg = true) (h3 : Lib.itoa (numD l) = l) : decR l = (numD l, true) := by rw [decR, if_pos ⟨⟨h0, h1⟩, h2, h3⟩]
end Go.Proofs.Ytmdmjnhebbhjbaa
