/-
  The bits of an ink read back, in plain words: as the program reads and as the reference reads; both answer the same.
-/
import Derived.Test.YtinlhigpmchiaaaGreatDoorEncP
import Derived.Test.YtinlhigpmchiaaaGreatDoorFromRes
import Derived.Test.YtinlhigpmchiaaaGreatDoorUnpack
namespace Go.Proofs.YtinlhigpmchiaaaGreatDoor
set_option linter.unusedSimpArgs false
set_option linter.unusedVariables false
set_option maxRecDepth 20000
open Go.RowKit
open Go.ChangeShapes Go.WideShapes Go.Deep Go.Joins

/-- how many ones stand at an index, at most f -/
def onesF (s : ByteArray) (a : Nat) : Nat → Nat
  | 0 => 0
  | f + 1 => if s.data.toList[a]? = some 49 then onesF s (a + 1) f + 1 else 0
def onesN (s : ByteArray) (a : Nat) : Nat := onesF s a 20
theorem onesF_at (s : ByteArray) : ∀ (f a : Nat), a ≤ s.size → onesF s a f ≤ f ∧ a + onesF s a f ≤ s.size ∧ (∀ j, j < onesF s a f → ∀ h : a + j < s.size, s[a + j] = 49) ∧ (onesF s a f = f ∨ a + onesF s a f = s.size ∨ ∃ h : a + onesF s a f < s.size, ¬ s[a + onesF s a f] = 49)
  | 0, a, ha => ⟨Nat.le_refl _, ha, fun j hj => absurd hj (Nat.not_lt_zero _), .inl rfl⟩
  | f + 1, a, ha => by
    by_cases h : s.data.toList[a]? = some 49
    · have e : onesF s a (f + 1) = onesF s (a + 1) f + 1 := by rw [onesF, if_pos h]
      have hlt : a < s.size := by
        obtain ⟨h1, _⟩ := List.getElem?_eq_some_iff.1 h
        simpa using h1
      have h49 : s[a] = 49 := by rw [at_list hlt] at h; exact Option.some.inj h
      obtain ⟨h1, h2, h3, h4⟩ := onesF_at s f (a + 1) hlt
      obtain ⟨q, hq⟩ : ∃ q, onesF s (a + 1) f = q := ⟨_, rfl⟩
      rw [e]
      rw [hq] at h1 h2 h3 h4 ⊢
      refine ⟨by omega, by omega, fun j hj hs => ?_, ?_⟩
      · rcases j with _ | j
        · exact h49
        · have h5 := h3 j (by omega) (by omega)
          have e2 : a + 1 + j = a + (j + 1) := by omega
          simp only [e2] at h5
          exact h5
      · have e2 : a + 1 + q = a + (q + 1) := by omega
        rcases h4 with h4 | h4 | ⟨h4, h5⟩
        · exact .inl (by omega)
        · exact .inr (.inl (by omega))
        · simp only [e2] at h4 h5
          exact .inr (.inr ⟨h4, h5⟩)
    · have e : onesF s a (f + 1) = 0 := by rw [onesF, if_neg h]
      rw [e]
      refine ⟨Nat.zero_le _, ha, fun j hj => absurd hj (Nat.not_lt_zero _), .inr ?_⟩
      rcases Nat.lt_or_eq_of_le ha with hlt | hlt
      · exact .inr ⟨hlt, fun h1 => h (by rw [at_list hlt]; exact congrArg some h1)⟩
      · exact .inl hlt
theorem onesN_at (s : ByteArray) {a : Nat} (ha : a ≤ s.size) : OnesAt s a (onesN s a) := by
  obtain ⟨h1, h2, h3, h4⟩ := onesF_at s 20 a ha
  exact ⟨h1, h2, h3, h4⟩
/-- the number of a Rice code at an index, and the index behind it -/
def riceO (s : ByteArray) (k a : Nat) : Option (Int × Nat) :=
  if (riceRd s a k (onesN s a)).2.2 = 0 then some ((riceRd s a k (onesN s a)).1, (riceRd s a k (onesN s a)).2.1.toNat) else none
theorem unfI_bd {u B : Nat} (h : u ≤ B) : -(B : Int) - 1 ≤ unfI u ∧ unfI u ≤ (B : Int) := by
  unfold unfI
  split <;> omega
/-- a Rice code is read, or refused -/
theorem rice_cases (s : ByteArray) (hall : s.data.toList.all isBit = true) (k a : Nat) (hk : k ≤ 15) (ha : a ≤ s.size) :
    (∃ (x : Int) (b : Nat), riceO s k a = some (x, b) ∧ riceRd s a k (onesN s a) = (x, (b : Int), 0) ∧ a ≤ b ∧ b ≤ s.size ∧ -1000000000 ≤ x ∧ x ≤ 1000000000) ∨
    (∃ c : Int, riceO s k a = none ∧ riceRd s a k (onesN s a) = (0, 0, c) ∧ (c = 8 ∨ c = 9)) := by
  have ho := onesN_at s ha
  obtain ⟨q, hq⟩ : ∃ q, onesN s a = q := ⟨_, rfl⟩
  have h20 := ho.le
  have hfit := ho.fit
  unfold riceO
  rw [hq] at h20 hfit ⊢
  clear ho hq
  by_cases h1 : q = 20
  · by_cases h2 : s.size < a + q + 32
    · right
      refine ⟨9, ?_, rd_long_cut h1 h2, .inr rfl⟩
      rw [rd_long_cut h1 h2]; rfl
    · by_cases h3 : valAt s (a + q) 32 / 2 ^ k < 20 ∨ resI (unfI (valAt s (a + q) 32)) = false
      · right
        refine ⟨8, ?_, rd_long_bad h1 h2 h3, .inl rfl⟩
        rw [rd_long_bad h1 h2 h3]; rfl
      · left
        have h4 : resI (unfI (valAt s (a + q) 32)) = true := by
          cases h5 : resI (unfI (valAt s (a + q) 32))
          · exact absurd (.inr h5) h3
          · rfl
        have h5 := inB_true h4
        refine ⟨_, a + q + 32, ?_, rd_long h1 h2 h3, by omega, by omega, h5.1, h5.2⟩
        rw [rd_long h1 h2 h3]
        simp only [Int.toNat_natCast]
        rfl
  · by_cases h2 : s.size < a + q + 1 + k
    · right
      refine ⟨9, ?_, rd_cut h1 h2, .inr rfl⟩
      rw [rd_cut h1 h2]; rfl
    · left
      have h3 : q * 2 ^ k + valAt s (a + q + 1) k ≤ 1000000 := by
        have h4 := pow15n hk
        have h5 := valAt_bd s (a + q + 1) k hall
        have h6 : q * 2 ^ k ≤ 20 * 32768 := Nat.mul_le_mul h20 h4.2
        omega
      have h5 := unfI_bd h3
      refine ⟨_, a + q + 1 + k, ?_, rd_short h1 h2, by omega, by omega, by omega, by omega⟩
      rw [rd_short h1 h2]
      simp only [Int.toNat_natCast]
      rfl
/-- some Rice codes, one behind the other -/
def ricesO (s : ByteArray) (k a : Nat) : Nat → Option (List Int × Nat)
  | 0 => some ([], a)
  | j + 1 => match ricesO s k a j with
    | none => none
    | some (l, b) => match riceO s k b with
      | none => none
      | some (x, c) => some (l ++ [x], c)
theorem rices_no {s : ByteArray} {k a j m : Nat} (h : ricesO s k a j = none) (hj : j ≤ m) : ricesO s k a m = none := by
  induction m with
  | zero => obtain rfl : j = 0 := by omega
            exact h
  | succ m ih =>
    rcases Nat.lt_or_ge m j with h1 | h1
    · obtain rfl : j = m + 1 := by omega
      exact h
    · unfold ricesO; rw [ih h1]
theorem rices_bad {s : ByteArray} {k a j b : Nat} {l : List Int} (h : ricesO s k a j = some (l, b)) (h2 : riceO s k b = none) : ricesO s k a (j + 1) = none := by
  unfold ricesO; rw [h]; simp only; rw [h2]
theorem rices_good {s : ByteArray} {k a j b c : Nat} {l : List Int} {x : Int} (h : ricesO s k a j = some (l, b)) (h2 : riceO s k b = some (x, c)) : ricesO s k a (j + 1) = some (l ++ [x], c) := by
  unfold ricesO; rw [h]; simp only; rw [h2]
theorem rices_is {s : ByteArray} (hall : s.data.toList.all isBit = true) {k a : Nat} (hk : k ≤ 15) (ha : a ≤ s.size) : ∀ {j b : Nat} {l : List Int}, ricesO s k a j = some (l, b) → l.length = j ∧ a ≤ b ∧ b ≤ s.size ∧ restP l
  | 0, b, l, h => by
    unfold ricesO at h
    injection h with h
    obtain ⟨rfl, rfl⟩ := Prod.mk.inj h
    exact ⟨rfl, Nat.le_refl _, ha, fun x hx => by cases hx⟩
  | j + 1, b, l, h => by
    unfold ricesO at h
    split at h
    · cases h
    · rename_i l0 b0 h0
      obtain ⟨e1, e2, e3, e4⟩ := rices_is hall hk ha h0
      split at h
      · cases h
      · rename_i x c h1
        injection h with h
        obtain ⟨rfl, rfl⟩ := Prod.mk.inj h
        rcases rice_cases s hall k b0 hk e3 with ⟨y, d, f1, _, f2, f3, f4, f5⟩ | ⟨_, f1, _⟩
        · rw [h1] at f1
          injection f1 with f1
          obtain ⟨rfl, rfl⟩ := Prod.mk.inj f1
          refine ⟨by rw [List.length_append, e1]; rfl, by omega, f3, fun z hz => ?_⟩
          rw [List.mem_append] at hz
          rcases hz with hz | hz
          · exact e4 z hz
          · obtain rfl : z = x := by simpa using hz
            exact ⟨f4, f5⟩
        · rw [h1] at f1; cases f1
/-- a number in some bits, and the index behind it -/
def numO (s : ByteArray) (a n : Nat) : Option (Nat × Nat) := if a + n ≤ s.size then some (valAt s a n, a + n) else none
theorem numO_yes {s : ByteArray} {a n : Nat} (h : a + n ≤ s.size) : numO s a n = some (valAt s a n, a + n) := if_pos h
theorem numO_no {s : ByteArray} {a n : Nat} (h : ¬ a + n ≤ s.size) : numO s a n = none := if_neg h
theorem numO_is {s : ByteArray} (hall : s.data.toList.all isBit = true) {a n v b : Nat} (h : numO s a n = some (v, b)) : v < 2 ^ n ∧ a + n = b ∧ b ≤ s.size := by
  unfold numO at h
  split at h
  · rename_i h1
    injection h with h
    obtain ⟨rfl, rfl⟩ := Prod.mk.inj h
    exact ⟨valAt_bd s a n hall, rfl, h1⟩
  · cases h
/-- a column, as the program reads it -/
def colI (s : ByteArray) (a m : Nat) : Option (List Int × Nat) :=
  match numO s a 4 with
  | none => none
  | some (k, b) => if k ≤ 12 then
      match ricesO s k b m with
      | none => none
      | some (xs, c) => if (fromR xs).2 = 0 then some ((fromR xs).1, c) else none
    else none
/-- a column, as the reference reads it -/
def colS (s : ByteArray) (a m : Nat) : Option (List Int × Nat) :=
  match numO s a 4 with
  | none => none
  | some (k, b) => if k ≤ 12 ∨ m = 0 then
      match ricesO s k b m with
      | none => none
      | some (xs, c) => match fromTo xs xs.length with
        | none => none
        | some L => some (L, c)
    else none
theorem fromR_zero {xs : List Int} (h : (fromR xs).2 = 0) : fromTo xs xs.length = some (fromR xs).1 := by
  unfold fromR at h ⊢
  split at h
  · rename_i h1
    rw [if_pos h1]
    split at h
    · rename_i out h2
      rw [h2]
    · exact absurd h (by decide)
  · exact absurd h (by decide)
theorem colI_colS {s : ByteArray} {a m : Nat} {r : List Int × Nat} (h : colI s a m = some r) : colS s a m = some r := by
  unfold colI at h
  unfold colS
  split at h
  · cases h
  · rename_i k b h0
    (try rw [h0])
    (try simp only)
    split at h
    · rename_i hk
      rw [if_pos (.inl hk)]
      split at h
      · cases h
      · rename_i xs c h1
        (try rw [h1])
        (try simp only)
        split at h
        · rename_i h2
          first | (rw [fromR_zero h2]; exact h) | simpa [fromR_zero h2] using h
        · cases h
    · cases h
theorem colS_colI {s : ByteArray} (hall : s.data.toList.all isBit = true) {a m : Nat} {r : List Int × Nat} (h : colS s a m = some r) (hm : 1 ≤ m ∧ m ≤ 60) : colI s a m = some r := by
  unfold colS at h
  unfold colI
  split at h
  · cases h
  · rename_i k b h0
    obtain ⟨_, _, hb⟩ := numO_is hall h0
    (try rw [h0])
    (try simp only)
    split at h
    · rename_i hk
      have hk2 : k ≤ 12 := by omega
      rw [if_pos hk2]
      split at h
      · cases h
      · rename_i xs c h1
        obtain ⟨e1, _, _, e4⟩ := rices_is hall (by omega) hb h1
        (try rw [h1])
        (try simp only)
        split at h
        · cases h
        · rename_i L h2
          have h3 : fromR xs = (L, 0) := fromR_some (decide_eq_true ⟨by omega, e4⟩) h2
          rw [h3]
          simpa using h
    · cases h
theorem colS_is {s : ByteArray} (hall : s.data.toList.all isBit = true) {a m b : Nat} {L : List Int} (h : colS s a m = some (L, b)) : L.length = m ∧ b ≤ s.size := by
  unfold colS at h
  split at h
  · cases h
  · rename_i k b0 h0
    obtain ⟨hv, _, hb⟩ := numO_is hall h0
    split at h
    · split at h
      · cases h
      · rename_i xs c h1
        obtain ⟨e1, _, e3, _⟩ := rices_is hall (by omega) hb h1
        split at h
        · cases h
        · rename_i L2 h2
          injection h with h
          obtain ⟨rfl, rfl⟩ := Prod.mk.inj h
          exact ⟨(fromTo_len h2).trans e1, e3⟩
    · cases h
/-- points of three columns -/
def zipTo (X Y T : List Int) (k : Nat) : List Pt := (List.range k).map fun i => ⟨X.getD i 0, Y.getD i 0, T.getD i 0⟩
theorem zipTo_len (X Y T : List Int) (k : Nat) : (zipTo X Y T k).length = k := by simp [zipTo]
theorem zipTo_next (X Y T : List Int) (k : Nat) : zipTo X Y T (k + 1) = zipTo X Y T k ++ [⟨X.getD k 0, Y.getD k 0, T.getD k 0⟩] := by simp [zipTo, List.range_succ]
/-- a stroke -/
def skO (col : ByteArray → Nat → Nat → Option (List Int × Nat)) (s : ByteArray) (a : Nat) : Option (List Pt × Nat) :=
  match numO s a 8 with
  | none => none
  | some (m, b) => match col s b m with
    | none => none
    | some (X, c) => match col s c m with
      | none => none
      | some (Y, d) => match col s d m with
        | none => none
        | some (T, e) => some (zipTo X Y T m, e)
theorem skI_skS {s : ByteArray} {a : Nat} {r : List Pt × Nat} (h : skO colI s a = some r) : skO colS s a = some r := by
  unfold skO at h ⊢
  split at h
  · cases h
  · rename_i m b h0
    (try rw [h0])
    (try simp only)
    split at h
    · cases h
    · rename_i X c h1
      rw [colI_colS h1]
      simp only
      split at h
      · cases h
      · rename_i Y d h2
        rw [colI_colS h2]
        simp only
        split at h
        · cases h
        · rename_i T e h3
          rw [colI_colS h3]
          exact h
theorem skS_skI {s : ByteArray} (hall : s.data.toList.all isBit = true) {a b : Nat} {l : List Pt} (h : skO colS s a = some (l, b)) (hl : strB l = true) : skO colI s a = some (l, b) := by
  obtain ⟨h5, h6, _⟩ := strB_true hl
  unfold skO at h ⊢
  split at h
  · cases h
  · rename_i m b h0
    (try rw [h0])
    (try simp only)
    split at h
    · cases h
    · rename_i X c h1
      split at h
      · cases h
      · rename_i Y d h2
        split at h
        · cases h
        · rename_i T e h3
          injection h with h
          obtain ⟨rfl, rfl⟩ := Prod.mk.inj h
          rw [zipTo_len] at h5 h6
          rw [colS_colI hall h1 ⟨h5, h6⟩]
          simp only
          rw [colS_colI hall h2 ⟨h5, h6⟩]
          simp only
          rw [colS_colI hall h3 ⟨h5, h6⟩]
/-- some strokes -/
def sksO (col : ByteArray → Nat → Nat → Option (List Int × Nat)) (s : ByteArray) (a : Nat) : Nat → Option (List (List Pt) × Nat)
  | 0 => some ([], a)
  | j + 1 => match sksO col s a j with
    | none => none
    | some (P, b) => match skO col s b with
      | none => none
      | some (l, c) => some (P ++ [l], c)
theorem sks_no {col : ByteArray → Nat → Nat → Option (List Int × Nat)} {s : ByteArray} {a j m : Nat} (h : sksO col s a j = none) (hj : j ≤ m) : sksO col s a m = none := by
  induction m with
  | zero => obtain rfl : j = 0 := by omega
            exact h
  | succ m ih =>
    rcases Nat.lt_or_ge m j with h1 | h1
    · obtain rfl : j = m + 1 := by omega
      exact h
    · unfold sksO; rw [ih h1]
theorem sks_bad {col : ByteArray → Nat → Nat → Option (List Int × Nat)} {s : ByteArray} {a j b : Nat} {P : List (List Pt)} (h : sksO col s a j = some (P, b)) (h2 : skO col s b = none) : sksO col s a (j + 1) = none := by
  unfold sksO; rw [h]; simp only; rw [h2]
theorem sks_good {col : ByteArray → Nat → Nat → Option (List Int × Nat)} {s : ByteArray} {a j b c : Nat} {P : List (List Pt)} {l : List Pt} (h : sksO col s a j = some (P, b)) (h2 : skO col s b = some (l, c)) : sksO col s a (j + 1) = some (P ++ [l], c) := by
  unfold sksO; rw [h]; simp only; rw [h2]
theorem sksI_sksS {s : ByteArray} {a : Nat} : ∀ {j : Nat} {r : List (List Pt) × Nat}, sksO colI s a j = some r → sksO colS s a j = some r
  | 0, r, h => h
  | j + 1, r, h => by
    unfold sksO at h ⊢
    split at h
    · cases h
    · rename_i P b h0
      rw [sksI_sksS h0]
      simp only
      split at h
      · cases h
      · rename_i l c h1
        rw [skI_skS h1]
        exact h
theorem sksS_sksI {s : ByteArray} (hall : s.data.toList.all isBit = true) {a : Nat} : ∀ {j b : Nat} {P : List (List Pt)}, sksO colS s a j = some (P, b) → (∀ l ∈ P, strB l = true) → sksO colI s a j = some (P, b)
  | 0, b, P, h, _ => h
  | j + 1, b, P, h, hP => by
    unfold sksO at h ⊢
    split at h
    · cases h
    · rename_i P0 b0 h0
      split at h
      · cases h
      · rename_i l c h1
        injection h with h
        obtain ⟨rfl, rfl⟩ := Prod.mk.inj h
        rw [sksS_sksI hall h0 fun l hl => hP l (by simp [hl])]
        simp only
        rw [skS_skI hall h1 (hP l (by simp))]
/-- an ink -/
def ikO (col : ByteArray → Nat → Nat → Option (List Int × Nat)) (s : ByteArray) : Option (List (List Pt)) :=
  match numO s 0 8 with
  | none => none
  | some (m, b) => match sksO col s b m with
    | none => none
    | some (P, _) => some P
theorem ikI_ikS {s : ByteArray} {P : List (List Pt)} (h : ikO colI s = some P) : ikO colS s = some P := by
  unfold ikO at h ⊢
  split at h
  · cases h
  · rename_i m b h0
    (try rw [h0])
    (try simp only)
    split at h
    · cases h
    · rename_i Q c h1
      rw [sksI_sksS h1]
      exact h
theorem ikS_ikI {s : ByteArray} (hall : s.data.toList.all isBit = true) {P : List (List Pt)} (h : ikO colS s = some P) (hP : inkB P = true) : ikO colI s = some P := by
  have h5 := (inkB_all hP).2
  unfold ikO at h ⊢
  split at h
  · cases h
  · rename_i m b h0
    (try rw [h0])
    (try simp only)
    split at h
    · cases h
    · rename_i Q c h1
      injection h with h
      subst h
      rw [sksS_sksI hall h1 h5]
/-- what is said of the ink that was read -/
def sayD (data : List UInt8) : Option (List (List Pt)) → List (List Pt) × Int
  | none => ([], 8)
  | some P => if inkB P = true ∧ encB P = data then (P, 0) else ([], 8)
theorem sayD_out {data : List UInt8} {P : List (List Pt)} (h : inkB P = false) : sayD data (some P) = ([], 8) := by show (if inkB P = true ∧ encB P = data then (P, (0 : Int)) else ([], 8)) = _; rw [h]; rfl
theorem sayD_other {data : List UInt8} {P : List (List Pt)} (h : ¬ encB P = data) : sayD data (some P) = ([], 8) := by show (if inkB P = true ∧ encB P = data then (P, (0 : Int)) else ([], 8)) = _; rw [if_neg fun h2 => h h2.2]
theorem sayD_yes {data : List UInt8} {P : List (List Pt)} (h : inkB P = true) (h2 : encB P = data) : sayD data (some P) = (P, 0) := by show (if inkB P = true ∧ encB P = data then (P, (0 : Int)) else ([], 8)) = _; rw [if_pos ⟨h, h2⟩]
/-- the bits of what lies between the mark and the checksum -/
def bodyD (data : List UInt8) : List UInt8 := (data.take (data.length - 2)).drop 2
def bitsD (data : List UInt8) : ByteArray := bs (unpackL (bodyD data))
def sumD (data : List UInt8) : Int := ((data.getD (data.length - 2) 0).toNat : Int) * 256 + ((data.getD (data.length - 1) 0).toNat : Int)
/-- what the reference answers -/
def decS (data : List UInt8) : List (List Pt) × Int :=
  if data.length < 5 then ([], 9)
  else if ¬ data.take 2 = [73, 75] then ([], 8)
  else if ¬ csum (data.take (data.length - 2)) = sumD data then ([], 10)
  else sayD data (ikO colS (bitsD data))
/-- what the program answers -/
def decI (data : List UInt8) : List (List Pt) × Int :=
  if data.length < 5 then ([], 9)
  else if ¬ data.take 2 = [73, 75] then ([], 8)
  else if ¬ csum (data.take (data.length - 2)) = sumD data then ([], 10)
  else if 12500 < (bodyD data).length then ([], 8)
  else sayD data (ikO colI (bitsD data))
theorem isBit_unpack (l : List UInt8) : (unpackL l).all isBit = true := isBit_flat (fun x => isBit_num _ _) l
theorem bitsD_all (data : List UInt8) : (bitsD data).data.toList.all isBit = true := by unfold bitsD; rw [bs_list]; exact isBit_unpack _
theorem encB_len (P : List (List Pt)) : (encB P).length = (inkBits P).length / 8 + 4 ∨ (encB P).length = ((inkBits P).length + 7) / 8 + 4 := by
  right
  unfold encB encS
  rw [List.length_append, List.length_append, packTo_len, bs_size]
  simp
  omega
theorem encB_le {P : List (List Pt)} (h : inkB P = true) : (encB P).length ≤ 10200 := by
  have h1 := inkTo_le h P.length
  have h2 := encB_len P
  unfold inkBits at h2
  omega
theorem bodyD_len (data : List UInt8) : (bodyD data).length = data.length - 4 := by
  unfold bodyD
  rw [List.length_drop, List.length_take]
  omega
/-- program and reference answer the same -/
theorem dec_same (data : List UInt8) : decI data = decS data := by
  unfold decI decS
  split
  · rfl
  · split
    · rfl
    · split
      · rfl
      · split
        · rename_i h
          rw [bodyD_len] at h
          cases h1 : ikO colS (bitsD data) with
          | none => rfl
          | some P =>
            cases h2 : inkB P
            · rw [sayD_out h2]
            · rw [sayD_other fun e => by have := encB_le h2; rw [e] at this; omega]
        · cases h1 : ikO colI (bitsD data) with
          | some P => rw [ikI_ikS h1]
          | none =>
            cases h2 : ikO colS (bitsD data) with
            | none => rfl
            | some P =>
              cases h3 : inkB P
              · rw [sayD_out h3]; rfl
              · rw [ikS_ikI (bitsD_all data) h2 h3] at h1; cases h1
end Go.Proofs.YtinlhigpmchiaaaGreatDoor
