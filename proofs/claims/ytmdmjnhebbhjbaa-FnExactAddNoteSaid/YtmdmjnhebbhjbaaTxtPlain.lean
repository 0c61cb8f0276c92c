/-
  Texts cut and joined again; the text of an ink, and reading it, in plain words: reading strictly, and reading loosely and comparing the text, give the same.
-/
import Derived.Test.YtmdmjnhebbhjbaaStra
import Derived.Test.YtmdmjnhebbhjbaaReadDecPlain
import Derived.Test.YtmdmjnhebbhjbaaPtsa
import Derived.Test.YtmdmjnhebbhjbaaInkOka
import Derived.Lib.Join
namespace Go.Proofs.Ytmdmjnhebbhjbaa
set_option linter.unusedSimpArgs false
set_option linter.unusedVariables false
set_option maxRecDepth 20000
open Go.RowKit
open Go.ChangeShapes Go.WideShapes Go.Deep Go.Joins

def jnB (c : UInt8) (ps : List (List UInt8)) : List UInt8 := Lib.join ps [c]
theorem jnB_one (c : UInt8) (p : List UInt8) : jnB c [p] = p := Lib.join_one _ _
theorem jnB_cons (c : UInt8) (p q : List UInt8) (r : List (List UInt8)) : jnB c (p :: q :: r) = p ++ c :: jnB c (q :: r) := by
  unfold jnB
  rw [Lib.join_cons, Lib.join_cons]
  simp [Lib.joinTail]
theorem split_join {c : UInt8} : ∀ (ps : List (List UInt8)), ps ≠ [] → (∀ p ∈ ps, c ∉ p) → splitL c (jnB c ps) = ps
  | [], h, _ => absurd rfl h
  | [p], _, h => by rw [jnB_one, splitL_none (h p (by simp))]
  | p :: q :: r, _, h => by
    rw [jnB_cons, splitL_hit (h p (by simp)), split_join (q :: r) (by simp) (fun x hx => h x (List.mem_cons_of_mem _ hx))]
theorem join_split {c : UInt8} : ∀ l : List UInt8, jnB c (splitL c l) = l
  | [] => jnB_one _ _
  | b :: l => by
    have ih := join_split (c := c) l
    have hne := splitL_ne c l
    obtain ⟨q, r, e⟩ : ∃ q r, splitL c l = q :: r := by
      cases h : splitL c l with
      | nil => exact absurd h hne
      | cons q r => exact ⟨q, r, rfl⟩
    rw [e] at ih
    by_cases hb : b = c
    · rw [splitL, if_pos hb, e, jnB_cons, ih, hb]; rfl
    · rw [splitL, if_neg hb, e]
      show jnB c ((b :: q) :: r) = _
      cases r with
      | nil => rw [jnB_one] at ih ⊢; rw [ih]
      | cons x r => rw [jnB_cons] at ih ⊢; rw [List.cons_append, ih]
theorem split_inj {c : UInt8} {l m : List UInt8} (h : splitL c l = splitL c m) : l = m := by rw [← join_split (c := c) l, h, join_split]
theorem split_snoc {c : UInt8} : ∀ l : List UInt8, splitL c (l ++ [c]) = splitL c l ++ [[]]
  | [] => by simp [splitL]
  | b :: l => by
    have ih := split_snoc (c := c) l
    obtain ⟨q, r, e⟩ : ∃ q r, splitL c l = q :: r := by
      cases h : splitL c l with
      | nil => exact absurd h (splitL_ne c l)
      | cons q r => exact ⟨q, r, rfl⟩
    rw [e] at ih
    by_cases hb : b = c
    · rw [List.cons_append, splitL, if_pos hb, splitL, if_pos hb, ih, e]; rfl
    · rw [List.cons_append, splitL, if_neg hb, splitL, if_neg hb, ih, e]; rfl
theorem split_last {c b : UInt8} (hb : ¬ b = c) : ∀ l : List UInt8, ∃ x, (splitL c (l ++ [b])).getLast? = some (x ++ [b])
  | [] => ⟨[], by simp [splitL, hb]⟩
  | a :: l => by
    obtain ⟨x, hx⟩ := split_last hb l
    obtain ⟨q, r, e⟩ : ∃ q r, splitL c (l ++ [b]) = q :: r := by
      cases h : splitL c (l ++ [b]) with
      | nil => exact absurd h (splitL_ne c _)
      | cons q r => exact ⟨q, r, rfl⟩
    rw [e] at hx
    by_cases ha : a = c
    · refine ⟨x, ?_⟩
      rw [List.cons_append, splitL, if_pos ha, e, List.getLast?_cons_cons]
      exact hx
    · rw [List.cons_append, splitL, if_neg ha, e]
      cases r with
      | nil =>
        refine ⟨a :: x, ?_⟩
        have h2 : q = x ++ [b] := by simpa using hx
        show ([a :: q] : List (List UInt8)).getLast? = _
        rw [h2]; rfl
      | cons y r =>
        refine ⟨x, ?_⟩
        show ((a :: q) :: y :: r : List (List UInt8)).getLast? = _
        rw [List.getLast?_cons_cons] at hx ⊢
        exact hx
/-- the lines of a text whose lines are each ended by a newline -/
def linesD (l : List UInt8) : Option (List (List UInt8)) := if l = [] then some [] else if l.getLast? = some 10 then some (splitL 10 l.dropLast) else none
def linesS (l : List UInt8) : Option (List (List UInt8)) := if (splitL 10 l).getLast? = some [] then some (splitL 10 l).dropLast else none
theorem snoc_of {l : List UInt8} (h : l ≠ []) : ∃ a b, l = a ++ [b] := ⟨l.dropLast, l.getLast h, (List.dropLast_concat_getLast h).symm⟩
theorem lines_same (l : List UInt8) : linesS l = linesD l := by
  unfold linesS linesD
  by_cases h : l = []
  · subst h; rfl
  · rw [if_neg h]
    obtain ⟨a, b, rfl⟩ := snoc_of h
    by_cases hb : b = 10
    · subst hb
      rw [split_snoc, if_pos (by simp), if_pos (by simp)]
      simp
    · obtain ⟨x, hx⟩ := split_last hb a
      rw [hx, if_neg (by simp), if_neg (by simp [hb])]
theorem lines_text {l : List UInt8} {L : List (List UInt8)} (h : linesD l = some L) : l = (L.map (· ++ [10])).flatten := by
  unfold linesD at h
  split at h
  · rename_i e; injection h with h; subst h; rw [e]; rfl
  · rename_i hne
    split at h
    · rename_i hl
      injection h with h
      obtain ⟨a, b, rfl⟩ := snoc_of hne
      have hb : b = 10 := by simpa using hl
      subst hb
      simp only [List.dropLast_concat] at h
      have hj := join_split (c := 10) a
      rw [h] at hj
      have hL : L ≠ [] := by rw [← h]; exact splitL_ne _ _
      rw [← hj]
      clear hj h hl hne
      induction L with
      | nil => exact absurd rfl hL
      | cons p r ih =>
        cases r with
        | nil => simp [jnB_one]
        | cons q r =>
          have := ih (by simp)
          rw [jnB_cons, List.map_cons, List.flatten_cons, ← this]
          simp
    · cases h
theorem lines_of {L : List (List UInt8)} (h : ∀ p ∈ L, (10 : UInt8) ∉ p) : linesD (L.map (· ++ [10])).flatten = some L := by
  cases L with
  | nil => rfl
  | cons p r =>
    have e : ∀ (r : List (List UInt8)) (p : List UInt8), ((p :: r).map (· ++ [10])).flatten = jnB 10 (p :: r) ++ [10] := by
      intro r
      induction r with
      | nil => intro p; simp [jnB_one]
      | cons q r ih => intro p; rw [List.map_cons, List.flatten_cons, ih q, jnB_cons]; simp
    rw [e]
    unfold linesD
    rw [if_neg (by simp), if_pos (by simp), List.dropLast_concat, split_join _ (by simp) h]

/-- all of them, or none -/
def allM {α β : Type} (f : α → Option β) : List α → Option (List β)
  | [] => some []
  | a :: l => match f a with
    | none => none
    | some b => match allM f l with
      | none => none
      | some m => some (b :: m)
theorem allM_nil {α β : Type} (f : α → Option β) : allM f [] = some [] := rfl
theorem allM_cons {α β : Type} {f : α → Option β} {a : α} {l : List α} {m : List β} : allM f (a :: l) = some m ↔ ∃ b r, f a = some b ∧ allM f l = some r ∧ m = b :: r := by
  rw [allM]
  cases h1 : f a with
  | none => simp
  | some b =>
    cases h2 : allM f l with
    | none => simp
    | some r => simp [eq_comm]
theorem allM_snoc {α β : Type} {f : α → Option β} : ∀ {l : List α} {m : List β} {a : α} {b : β}, allM f l = some m → f a = some b → allM f (l ++ [a]) = some (m ++ [b])
  | [], m, a, b, h1, h2 => by
    rw [allM_nil] at h1; injection h1 with h1; subst h1
    exact allM_cons.2 ⟨b, [], h2, rfl, rfl⟩
  | x :: l, m, a, b, h1, h2 => by
    obtain ⟨y, r, h3, h4, rfl⟩ := allM_cons.1 h1
    exact allM_cons.2 ⟨y, r ++ [b], h3, allM_snoc h4 h2, rfl⟩
theorem allM_take {α β : Type} {f : α → Option β} {l : List α} {m : List β} {k : Nat} {b : β} (h : allM f (l.take k) = some m) (hk : k < l.length) (hb : f l[k] = some b) : allM f (l.take (k + 1)) = some (m ++ [b]) := by
  rw [List.take_succ_eq_append_getElem hk]
  exact allM_snoc h hb
theorem allM_none {α β : Type} {f : α → Option β} : ∀ {l : List α} {k : Nat} (hk : k < l.length), f l[k] = none → allM f l = none
  | a :: l, 0, _, h => by
    rw [allM]
    have h' : f a = none := h
    rw [h']
  | a :: l, k + 1, hk, h => by
    have ih : allM f l = none := allM_none (l := l) (k := k) (by simpa using hk) (by simpa using h)
    rw [allM, ih]
    cases f a <;> rfl
theorem allM_len {α β : Type} {f : α → Option β} : ∀ {l : List α} {m : List β}, allM f l = some m → m.length = l.length
  | [], m, h => by rw [allM_nil] at h; injection h with h; subst h; rfl
  | a :: l, m, h => by
    obtain ⟨b, r, _, h2, rfl⟩ := allM_cons.1 h
    rw [List.length_cons, List.length_cons, allM_len h2]
/-- what maps back -/
theorem allM_back {α β : Type} {f : α → Option β} {g : β → α} : ∀ {l : List α} {m : List β}, (∀ a b, a ∈ l → f a = some b → g b = a) → allM f l = some m → m.map g = l
  | [], m, _, h => by rw [allM_nil] at h; injection h with h; subst h; rfl
  | a :: l, m, hg, h => by
    obtain ⟨b, r, h1, h2, rfl⟩ := allM_cons.1 h
    rw [List.map_cons, hg a b (by simp) h1, allM_back (fun a b ha => hg a b (by simp [ha])) h2]
theorem allM_map {α β : Type} {f : α → Option β} {g : β → α} : ∀ {m : List β}, (∀ b ∈ m, f (g b) = some b) → allM f (m.map g) = some m
  | [], _ => rfl
  | b :: m, h => allM_cons.2 ⟨b, m, h b (by simp), allM_map fun x hx => h x (by simp [hx]), rfl⟩
theorem allM_mono {α β : Type} {f f' : α → Option β} : ∀ {l : List α} {m : List β}, (∀ a b, a ∈ l → f a = some b → f' a = some b) → allM f l = some m → allM f' l = some m
  | [], m, _, h => h
  | a :: l, m, hf, h => by
    obtain ⟨b, r, h1, h2, rfl⟩ := allM_cons.1 h
    exact allM_cons.2 ⟨b, r, hf a b (by simp) h1, allM_mono (fun a b ha => hf a b (by simp [ha])) h2, rfl⟩

theorem itoa_mem {n : Int} {b : UInt8} (h : b ∈ Lib.itoa n) : isDg b = true ∨ b = 45 := by
  rcases Int.lt_trichotomy n 0 with h0 | h0 | h0
  · obtain ⟨m, hm⟩ : ∃ m : Nat, n = -(m : Int) := ⟨n.natAbs, by omega⟩
    subst hm
    rw [itoa_neg (by omega)] at h
    rcases List.mem_cons.1 h with h | h
    · exact .inr h
    · exact .inl (List.all_eq_true.1 (digs_dg m) b h)
  · subst h0
    rw [itoa_zero] at h
    have : b = 48 := by simpa using h
    subst this
    exact .inl rfl
  · obtain ⟨m, hm⟩ : ∃ m : Nat, n = (m : Int) := ⟨n.toNat, by omega⟩
    subst hm
    rw [itoa_nat (by omega)] at h
    exact .inl (List.all_eq_true.1 (digs_dg m) b h)
theorem itoa_no {n : Int} {c : UInt8} (h1 : isDg c = false) (h2 : ¬ c = 45) : c ∉ Lib.itoa n := fun h => by
  rcases itoa_mem h with h | h
  · rw [h1] at h; exact absurd h (by simp)
  · exact h2 h
theorem digs_val : ∀ m : Nat, valD (digs m) = m := by
  intro m
  induction m using Nat.strongRecOn with
  | _ m ih =>
    rcases Nat.eq_zero_or_pos m with e | e
    · subst e; rw [digs_zero]; rfl
    · rw [digs_pos e, valD_snoc, ih (m / 10) (by omega), UInt8.toNat_ofNat']
      have := Nat.mod_lt m (show 10 > 0 by omega)
      rw [Nat.mod_eq_of_lt (a := 48 + m % 10) (by omega)]
      omega
theorem digs_ne {m : Nat} (h : 0 < m) : 1 ≤ (digs m).length := by rw [digs_pos h, List.length_append]; simp
theorem digs_head {m : Nat} : negD (digs m) = false := by
  cases h : digs m with
  | nil => rfl
  | cons c r =>
    have h1 := digs_dg m
    rw [h, List.all_cons, Bool.and_eq_true] at h1
    rw [negD_cons]
    cases hc : (c == 45)
    · rfl
    · have : c = 45 := by simpa using hc
      subst this
      exact absurd h1.1 (by decide)
/-- a number is read from its own text -/
theorem decR_itoa {n : Int} (h0 : -1000000000000000000 < n) (h1 : n < 1000000000000000000) : decR (Lib.itoa n) = (n, true) := by
  rcases Int.lt_trichotomy n 0 with h | h | h
  · obtain ⟨m, hm⟩ : ∃ m : Nat, n = -(m : Int) := ⟨n.natAbs, by omega⟩
    subst hm
    have hi := itoa_neg (m := m) (by omega)
    have ht : tailD (45 :: digs m) = digs m := rfl
    have hn : numD (45 :: digs m) = -(m : Int) := by show -(valD (digs m) : Int) = _; rw [digs_val]
    have hl := digs_len 18 m (by omega)
    have h3 := digs_ne (m := m) (by omega)
    rw [hi]
    have := decR_ok (l := 45 :: digs m) (by rw [ht]; exact h3) (by rw [ht]; exact hl) (by rw [ht]; exact digs_dg m) (by rw [hn, hi])
    rw [this, hn]
  · subst h; decide +kernel
  · obtain ⟨m, hm⟩ : ∃ m : Nat, n = (m : Int) := ⟨n.toNat, by omega⟩
    subst hm
    have hi := itoa_nat (m := m) (by omega)
    have ht : tailD (digs m) = digs m := by unfold tailD; rw [digs_head]; rfl
    have hn : numD (digs m) = (m : Int) := by unfold numD; rw [digs_head, ht, digs_val]; rfl
    have hl := digs_len 18 m (by omega)
    have h3 := digs_ne (m := m) (by omega)
    rw [hi]
    have := decR_ok (l := digs m) (by rw [ht]; exact h3) (by rw [ht]; exact hl) (by rw [ht]; exact digs_dg m) (by rw [hn, hi])
    rw [this, hn]
theorem decR_back {l : List UInt8} (h : (decR l).2 = true) : Lib.itoa (decR l).1 = l := by
  unfold decR at h ⊢
  split
  · rename_i hh; exact hh.2.2
  · rename_i hh; rw [if_neg hh] at h; exact absurd h (by simp)
theorem itoa_len {n : Int} (h0 : -1000000000000000000 < n) (h1 : n < 1000000000000000000) : (Lib.itoa n).length ≤ 19 := by
  rcases Int.lt_trichotomy n 0 with h | h | h
  · obtain ⟨m, hm⟩ : ∃ m : Nat, n = -(m : Int) := ⟨n.natAbs, by omega⟩
    subst hm
    rw [itoa_neg (by omega), List.length_cons]
    have hl := digs_len 18 m (by omega)
    omega
  · subst h; rw [itoa_zero]; simp
  · obtain ⟨m, hm⟩ : ∃ m : Nat, n = (m : Int) := ⟨n.toNat, by omega⟩
    subst hm
    rw [itoa_nat (by omega)]
    have hl := digs_len 18 m (by omega)
    omega

/-- the texts of a point, a stroke, an ink -/
def ptTx (p : Pt) : List UInt8 := jnB 44 [Lib.itoa p.x, Lib.itoa p.y, Lib.itoa p.t]
def lnTx (l : List Pt) : List UInt8 := jnB 32 (l.map ptTx)
def inkTx (P : List (List Pt)) : List UInt8 := ((P.map lnTx).map (· ++ [10])).flatten
theorem join_no {c d : UInt8} (h : ¬ d = c) : ∀ {ps : List (List UInt8)}, (∀ p ∈ ps, d ∉ p) → d ∉ jnB c ps
  | [], _ => by show d ∉ Lib.join [] _; rw [Lib.join_nil]; simp
  | [p], hp => by rw [jnB_one]; exact hp p (by simp)
  | p :: q :: r, hp => by
    rw [jnB_cons]
    intro hm
    rcases List.mem_append.1 hm with hm | hm
    · exact hp p (by simp) hm
    · rcases List.mem_cons.1 hm with hm | hm
      · exact h hm
      · exact join_no h (ps := q :: r) (fun x hx => hp x (List.mem_cons_of_mem _ hx)) hm
theorem ptTx_no {p : Pt} {c : UInt8} (h1 : isDg c = false) (h2 : ¬ c = 45) (h3 : ¬ c = 44) : c ∉ ptTx p :=
  join_no h3 fun x hx => by
    simp only [List.mem_cons, List.not_mem_nil, or_false] at hx
    rcases hx with rfl | rfl | rfl <;> exact itoa_no h1 h2
/-- the numbers between commas -/
def numsD (w : List UInt8) : List Int := (splitL 44 w).map fun a => (decR a).1
def iPt (w : List UInt8) : Option Pt := match numsD w with
  | [a, b, c] => some ⟨a, b, c⟩
  | _ => none
def sPt (w : List UInt8) : Option Pt := match splitL 44 w with
  | [a, b, c] => if (decR a).2 && ((decR b).2 && (decR c).2) then some ⟨(decR a).1, (decR b).1, (decR c).1⟩ else none
  | _ => none
theorem sPt_iPt {w : List UInt8} {p : Pt} (h : sPt w = some p) : iPt w = some p := by
  unfold sPt at h
  unfold iPt numsD
  split at h
  · rename_i a b c e
    split at h
    · injection h with h; subst h; rw [e]; rfl
    · cases h
  · cases h
theorem sPt_tx {w : List UInt8} {p : Pt} (h : sPt w = some p) : ptTx p = w := by
  unfold sPt at h
  split at h
  · rename_i a b c e
    split at h
    · rename_i hh
      injection h with h
      subst h
      rw [Bool.and_eq_true, Bool.and_eq_true] at hh
      show jnB 44 [Lib.itoa (decR a).1, Lib.itoa (decR b).1, Lib.itoa (decR c).1] = w
      rw [decR_back hh.1, decR_back hh.2.1, decR_back hh.2.2, ← e, join_split]
    · cases h
  · cases h
theorem sPt_of {p : Pt} (h : ptB p = true) : sPt (ptTx p) = some p := by
  have hb : (0 ≤ p.x ∧ p.x ≤ 4095) ∧ (0 ≤ p.y ∧ p.y ≤ 4095) ∧ (0 ≤ p.t ∧ p.t ≤ 3600000) := by
    simp only [ptB, Bool.and_eq_true] at h
    exact ⟨inB_true (by simp_all), inB_true (by simp_all), inB_true (by simp_all)⟩
  have e : splitL 44 (ptTx p) = [Lib.itoa p.x, Lib.itoa p.y, Lib.itoa p.t] := split_join _ (by simp) fun x hx => by
    simp only [List.mem_cons, List.not_mem_nil, or_false] at hx
    rcases hx with rfl | rfl | rfl <;> exact itoa_no (by decide) (by decide)
  unfold sPt
  rw [e]
  simp only [decR_itoa (n := p.x) (by omega) (by omega), decR_itoa (n := p.y) (by omega) (by omega), decR_itoa (n := p.t) (by omega) (by omega)]
  rfl
def lineM (f : List UInt8 → Option Pt) (l : List UInt8) : Option (List Pt) := allM f (splitL 32 l)
def inkM (f : List UInt8 → Option Pt) (s : List UInt8) : Option (List (List Pt)) := match linesD s with
  | none => none
  | some L => allM (lineM f) L
def readS (s : List UInt8) : List (List Pt) × Bool := match inkM sPt s with
  | none => ([], false)
  | some P => if inkB P = true then (P, true) else ([], false)
def readI (s : List UInt8) : List (List Pt) × Bool := match inkM iPt s with
  | none => ([], false)
  | some P => if inkB P = true then (if inkTx P = s then (P, true) else ([], false)) else ([], false)
theorem lineM_tx {l : List UInt8} {p : List Pt} (h : lineM sPt l = some p) : lnTx p = l := by
  have h1 := allM_back (g := ptTx) (fun a b _ hb => sPt_tx hb) h
  unfold lnTx
  rw [h1, join_split]
theorem lineM_of {l : List Pt} (h : strB l = true) : lineM sPt (lnTx l) = some l := by
  obtain ⟨h1, _, h3, _⟩ := strB_true h
  have e : splitL 32 (lnTx l) = l.map ptTx := split_join _ (by intro e; rw [List.map_eq_nil_iff] at e; subst e; simp at h1) fun x hx => by
    obtain ⟨p, _, rfl⟩ := List.mem_map.1 hx
    exact ptTx_no (by decide) (by decide) (by decide)
  unfold lineM
  rw [e]
  refine allM_map fun b hb => ?_
  obtain ⟨j, hj, rfl⟩ := List.mem_iff_getElem.1 hb
  exact sPt_of (h3 j hj)
theorem lnTx_no (l : List Pt) : (10 : UInt8) ∉ lnTx l := join_no (by decide) fun x hx => by
  obtain ⟨p, _, rfl⟩ := List.mem_map.1 hx
  exact ptTx_no (by decide) (by decide) (by decide)
theorem inkM_tx {s : List UInt8} {P : List (List Pt)} (h : inkM sPt s = some P) : inkTx P = s := by
  unfold inkM at h
  cases hl : linesD s with
  | none => rw [hl] at h; cases h
  | some L =>
    rw [hl] at h
    have h1 := allM_back (g := lnTx) (fun a b _ hb => lineM_tx hb) h
    unfold inkTx
    rw [h1]
    exact (lines_text hl).symm
theorem inkM_of {P : List (List Pt)} (h : ∀ l ∈ P, strB l = true) : inkM sPt (inkTx P) = some P := by
  unfold inkM inkTx
  rw [lines_of (L := P.map lnTx) (fun x hx => by obtain ⟨l, _, rfl⟩ := List.mem_map.1 hx; exact lnTx_no l)]
  exact allM_map fun b hb => lineM_of (h b hb)
theorem inkM_mono {s : List UInt8} {P : List (List Pt)} (h : inkM sPt s = some P) : inkM iPt s = some P := by
  unfold inkM at h ⊢
  cases hl : linesD s with
  | none => rw [hl] at h; cases h
  | some L =>
    rw [hl] at h
    exact allM_mono (fun a b _ hb => allM_mono (fun a b _ hb => sPt_iPt hb) hb) h
theorem ptsOf_mk (P : List (List Pt)) : ptsOf (P.map fun l => (⟨none, 0, l⟩ : St)) = P := by
  unfold ptsOf
  rw [List.map_map]
  exact List.map_id' P
theorem inkB_str {P : List (List Pt)} (h : inkB P = true) : ∀ l ∈ P, strB l = true := fun l hl => by
  rw [← ptsOf_mk P] at h
  obtain ⟨j, hj, rfl⟩ := List.mem_iff_getElem.1 hl
  have h2 := (inkB_true h).2 j (by simpa using hj)
  simpa using h2
theorem inkB_le {P : List (List Pt)} (h : inkB P = true) : P.length ≤ 16 := by
  rw [← ptsOf_mk P] at h
  have h2 := (inkB_true h).1
  simpa using h2
theorem read_same (s : List UInt8) : readI s = readS s := by
  unfold readI readS
  cases hs : inkM sPt s with
  | some P =>
    rw [inkM_mono hs]
    simp only [inkM_tx hs, if_true]
  | none =>
    cases hi : inkM iPt s with
    | none => rfl
    | some P =>
      simp only []
      split
      · rename_i hb
        split
        · rename_i ht
          exfalso
          have := inkM_of (inkB_str hb)
          rw [ht, hs] at this
          cases this
        · rfl
      · rfl
end Go.Proofs.Ytmdmjnhebbhjbaa
