/-
  The text of a file, and reading it, in plain words: reading strictly, and reading loosely and comparing the text, give the same.
-/
import Derived.Test.YtmdmjnhebbhjbaaCommas
import Derived.Test.YtmdmjnhebbhjbaaFileB
namespace Go.Proofs.Ytmdmjnhebbhjbaa
set_option linter.unusedSimpArgs false
set_option linter.unusedVariables false
set_option maxRecDepth 20000
open Go.RowKit
open Go.ChangeShapes Go.WideShapes Go.Deep Go.Joins

/-- what is left of a value when some steps are done one behind another -/
def foldO {α β : Type} (f : β → α → Option β) : β → List α → Option β
  | b, [] => some b
  | b, a :: l => match f b a with
    | none => none
    | some c => foldO f c l
theorem foldO_cons {α β : Type} {f : β → α → Option β} {b c : β} {a : α} {l : List α} (h : f b a = some c) : foldO f b (a :: l) = foldO f c l := by rw [foldO, h]
theorem foldO_some {α β : Type} {f : β → α → Option β} {b d : β} {a : α} {l : List α} (h : foldO f b (a :: l) = some d) : ∃ c, f b a = some c ∧ foldO f c l = some d := by
  rw [foldO] at h
  cases e : f b a with
  | none => rw [e] at h; cases h
  | some c => rw [e] at h; exact ⟨c, rfl, h⟩
theorem foldO_append {α β : Type} {f : β → α → Option β} : ∀ {l m : List α} {b c : β}, foldO f b l = some c → foldO f b (l ++ m) = foldO f c m
  | [], m, b, c, h => by injection h with h; subst h; rfl
  | a :: l, m, b, c, h => by
    obtain ⟨d, h1, h2⟩ := foldO_some h
    rw [List.cons_append, foldO_cons h1, foldO_append h2]
theorem foldO_take {α β : Type} {f : β → α → Option β} {l : List α} {b c d : β} {k : Nat} (h : foldO f b (l.take k) = some c) (hk : k < l.length) (hd : f c l[k] = some d) : foldO f b (l.take (k + 1)) = some d := by
  rw [List.take_succ_eq_append_getElem hk, foldO_append h, foldO_cons hd]
  rfl
theorem foldO_none {α β : Type} {f : β → α → Option β} {l : List α} {b c : β} {k : Nat} (h : foldO f b (l.take k) = some c) (hk : k < l.length) (hd : f c l[k] = none) : foldO f b l = none := by
  have e : l = l.take k ++ l[k] :: l.drop (k + 1) := by rw [← List.drop_eq_getElem_cons hk, List.take_append_drop]
  rw [e, foldO_append h, foldO, hd]
theorem foldO_mono {α β : Type} {f g : β → α → Option β} (hf : ∀ b a c, f b a = some c → g b a = some c) : ∀ {l : List α} {b d : β}, foldO f b l = some d → foldO g b l = some d
  | [], _, _, h => h
  | a :: l, b, d, h => by
    obtain ⟨c, h1, h2⟩ := foldO_some h
    rw [foldO_cons (hf _ _ _ h1)]
    exact foldO_mono hf h2

def wCh : List UInt8 := [99, 104, 97, 110, 110, 101, 108]
def wSt : List UInt8 := [115, 116, 114, 111, 107, 101]
def wNo : List UInt8 := [110, 111, 116, 101]
/-- the texts of a channel, a stroke, a note, a file -/
def chTx (c : Ch) : List UInt8 := jnB 32 [wCh, c.name.data.toList, c.unit.data.toList, Lib.itoa c.low, Lib.itoa c.high]
def stTx (s : List (List Int)) : List UInt8 := jnB 32 (wSt :: s.map comL)
def noTx (n : No) : List UInt8 := jnB 32 [wNo, Lib.itoa n.fr, Lib.itoa n.til, n.text.data.toList]
def fileLn (p : FlP) : List (List UInt8) := p.ch.map chTx ++ (p.st.map stTx ++ p.no.map noTx)
def endLn (L : List (List UInt8)) : List UInt8 := (L.map (· ++ [10])).flatten
def fileTx (p : FlP) : List UInt8 := endLn (fileLn p)
def fl0 : FlP := ⟨[], [], []⟩
def addCh (p : FlP) (c : Ch) : FlP := ⟨p.ch ++ [c], p.st, p.no⟩
def addSt (p : FlP) (s : List (List Int)) : FlP := ⟨p.ch, p.st ++ [s], p.no⟩
def addNo (p : FlP) (n : No) : FlP := ⟨p.ch, p.st, p.no ++ [n]⟩
/-- a row, strictly -/
def sRow (w : List UInt8) : Option (List Int) := allM (fun a => if (decR a).2 = true then some (decR a).1 else none) (splitL 44 w)
def wChan (w : List (List UInt8)) : Ch := ⟨bs (w.getD 1 []), bs (w.getD 2 []), (decR (w.getD 3 [])).1, (decR (w.getD 4 [])).1⟩
def wNote (w : List (List UInt8)) : No := ⟨(decR (w.getD 1 [])).1, (decR (w.getD 2 [])).1, bs (w.getD 3 [])⟩
/-- a line, strictly and loosely -/
def sLine (p : FlP) (w : List (List UInt8)) : Option FlP :=
  if w.getD 0 [] = wCh ∧ w.length = 5 ∧ p.st = [] ∧ p.no = [] then (if (decR (w.getD 3 [])).2 = true ∧ (decR (w.getD 4 [])).2 = true then some (addCh p (wChan w)) else none)
  else if w.getD 0 [] = wSt ∧ p.no = [] then (match allM sRow w.tail with
    | none => none
    | some r => some (addSt p r))
  else if w.getD 0 [] = wNo ∧ w.length = 4 then (if (decR (w.getD 1 [])).2 = true ∧ (decR (w.getD 2 [])).2 = true then some (addNo p (wNote w)) else none)
  else none
def iLine (p : FlP) (w : List (List UInt8)) : Option FlP :=
  if w.getD 0 [] = wCh ∧ w.length = 5 then some (addCh p (wChan w))
  else if w.getD 0 [] = wSt then some (addSt p (w.tail.map numsD))
  else if w.getD 0 [] = wNo ∧ w.length = 4 then some (addNo p (wNote w))
  else none
theorem sRow_nums {w : List UInt8} {r : List Int} (h : sRow w = some r) : numsD w = r := by
  have key : ∀ {l : List (List UInt8)} {m : List Int}, allM (fun a => if (decR a).2 = true then some (decR a).1 else none) l = some m → l.map (fun a => (decR a).1) = m := by
    intro l
    induction l with
    | nil => intro m h; rw [allM_nil] at h; injection h
    | cons a l ih =>
      intro m h
      obtain ⟨b, t, h1, h2, rfl⟩ := allM_cons.1 h
      have h3 := ih h2
      split at h1
      · injection h1 with h1
        rw [List.map_cons, h3, h1]
      · cases h1
  exact key h
theorem sRow_tx {w : List UInt8} {r : List Int} (h : sRow w = some r) : comL r = w := by
  have h1 := allM_back (g := Lib.itoa) (fun a b _ hb => by
    split at hb
    · rename_i hh; injection hb with hb; rw [← hb]; exact decR_back hh
    · cases hb) h
  unfold comL
  rw [h1, join_split]
theorem sRows_nums : ∀ {l : List (List UInt8)} {r : List (List Int)}, allM sRow l = some r → l.map numsD = r
  | [], r, h => by rw [allM_nil] at h; injection h
  | a :: l, r, h => by
    obtain ⟨b, t, h1, h2, rfl⟩ := allM_cons.1 h
    rw [List.map_cons, sRow_nums h1, sRows_nums h2]
theorem sLine_iLine {p q : FlP} {w : List (List UInt8)} (h : sLine p w = some q) : iLine p w = some q := by
  unfold sLine at h
  unfold iLine
  split at h
  · rename_i hh
    split at h
    · rw [if_pos ⟨hh.1, hh.2.1⟩]; exact h
    · cases h
  · split at h
    · rename_i hh
      rw [if_neg (fun h2 => by rw [hh.1] at h2; exact absurd h2.1 (by decide)), if_pos hh.1]
      cases hr : allM sRow w.tail with
      | none => rw [hr] at h; cases h
      | some r => rw [hr] at h; rw [sRows_nums hr]; exact h
    · split at h
      · rename_i hh
        split at h
        · rw [if_neg (fun h2 => by rw [hh.1] at h2; exact absurd h2.1 (by decide)), if_neg (fun h2 => by rw [hh.1] at h2; exact absurd h2 (by decide)), if_pos hh]; exact h
        · cases h
      · cases h
theorem len5 {α : Type} {w : List α} (h : w.length = 5) : ∃ a b c d e, w = [a, b, c, d, e] := by
  match w, h with
  | [a, b, c, d, e], _ => exact ⟨a, b, c, d, e, rfl⟩
theorem len4 {α : Type} {w : List α} (h : w.length = 4) : ∃ a b c d, w = [a, b, c, d] := by
  match w, h with
  | [a, b, c, d], _ => exact ⟨a, b, c, d, rfl⟩
theorem sLine_ln {p q : FlP} {w : List (List UInt8)} (h : sLine p w = some q) : fileLn q = fileLn p ++ [jnB 32 w] := by
  unfold sLine at h
  split at h
  · rename_i hh
    split at h
    · rename_i hd
      injection h with h
      obtain ⟨a, b, c, d, e, rfl⟩ := len5 hh.2.1
      obtain ⟨h1, _, h3, h4⟩ := hh
      subst h
      have h5 : a = wCh := h1
      subst h5
      have h6 : Lib.itoa (decR d).1 = d := decR_back hd.1
      have h7 : Lib.itoa (decR e).1 = e := decR_back hd.2
      have h8 : chTx (wChan [wCh, b, c, d, e]) = jnB 32 [wCh, b, c, d, e] := by
        show jnB 32 [wCh, (bs b).data.toList, (bs c).data.toList, Lib.itoa (decR d).1, Lib.itoa (decR e).1] = _
        rw [h6, h7, bs_list, bs_list]
      show (p.ch ++ [_]).map chTx ++ (p.st.map stTx ++ p.no.map noTx) = (p.ch.map chTx ++ (p.st.map stTx ++ p.no.map noTx)) ++ _
      rw [h3, h4, List.map_append, List.map_singleton, h8]
      simp
    · cases h
  · split at h
    · rename_i hh
      cases hr : allM sRow w.tail with
      | none => rw [hr] at h; cases h
      | some r =>
        rw [hr] at h
        injection h with h
        subst h
        obtain ⟨h1, h2⟩ := hh
        have h3 := allM_back (g := comL) (fun a b _ hb => sRow_tx hb) hr
        obtain ⟨a, t, rfl⟩ : ∃ a t, w = a :: t := by
          cases w with
          | nil => exact absurd h1 (by decide)
          | cons a t => exact ⟨a, t, rfl⟩
        have h4 : a = wSt := h1
        subst h4
        have h5 : stTx r = jnB 32 (wSt :: t) := by
          unfold stTx
          rw [h3]
          rfl
        show p.ch.map chTx ++ ((p.st ++ [r]).map stTx ++ p.no.map noTx) = (p.ch.map chTx ++ (p.st.map stTx ++ p.no.map noTx)) ++ _
        rw [h2, List.map_append, List.map_singleton, h5]
        simp
    · split at h
      · rename_i hh
        split at h
        · rename_i hd
          injection h with h
          obtain ⟨a, b, c, d, rfl⟩ := len4 hh.2
          obtain ⟨h1, _⟩ := hh
          subst h
          have h5 : a = wNo := h1
          subst h5
          have h6 : Lib.itoa (decR b).1 = b := decR_back hd.1
          have h7 : Lib.itoa (decR c).1 = c := decR_back hd.2
          have h8 : noTx (wNote [wNo, b, c, d]) = jnB 32 [wNo, b, c, d] := by
            show jnB 32 [wNo, Lib.itoa (decR b).1, Lib.itoa (decR c).1, (bs d).data.toList] = _
            rw [h6, h7, bs_list]
          show p.ch.map chTx ++ (p.st.map stTx ++ (p.no ++ [_]).map noTx) = (p.ch.map chTx ++ (p.st.map stTx ++ p.no.map noTx)) ++ _
          rw [List.map_append, List.map_singleton, h8]
          simp
        · cases h
      · cases h
theorem sFold_ln : ∀ {W : List (List (List UInt8))} {p q : FlP}, foldO sLine p W = some q → fileLn q = fileLn p ++ W.map (jnB 32)
  | [], p, q, h => by injection h with h; subst h; simp
  | w :: W, p, q, h => by
    obtain ⟨r, h1, h2⟩ := foldO_some h
    rw [sFold_ln h2, sLine_ln h1, List.map_cons]
    simp
def rdF (f : FlP → List (List UInt8) → Option FlP) (s : List UInt8) : Option FlP := match linesD s with
  | none => none
  | some L => foldO f fl0 (L.map (splitL 32))
def GoodS (s : List UInt8) (p : FlP) : Prop := rdF sLine s = some p ∧ FileOk p
def GoodI (s : List UInt8) (p : FlP) : Prop := rdF iLine s = some p ∧ FileOk p ∧ fileTx p = s
theorem rdF_tx {s : List UInt8} {p : FlP} (h : rdF sLine s = some p) : fileTx p = s := by
  unfold rdF at h
  cases hl : linesD s with
  | none => rw [hl] at h; cases h
  | some L =>
    rw [hl] at h
    have h1 := sFold_ln h
    rw [List.map_map] at h1
    have h2 : L.map (jnB 32 ∘ splitL 32) = L := by
      have e : ∀ M : List (List UInt8), M.map (jnB 32 ∘ splitL 32) = M := fun M => by
        induction M with
        | nil => rfl
        | cons a M ih => rw [List.map_cons, ih]; show jnB 32 (splitL 32 a) :: M = _; rw [join_split]
      exact e L
    rw [h2] at h1
    have h3 : fileLn p = L := by rw [h1]; rfl
    unfold fileTx
    rw [h3]
    exact (lines_text hl).symm
theorem GoodS.good {s : List UInt8} {p : FlP} (h : GoodS s p) : GoodI s p := by
  refine ⟨?_, h.2, rdF_tx h.1⟩
  have h1 := h.1
  unfold rdF at h1 ⊢
  cases hl : linesD s with
  | none => rw [hl] at h1; cases h1
  | some L =>
    rw [hl] at h1
    exact foldO_mono (fun b a c h => sLine_iLine h) h1
theorem okB_no {l : List UInt8} {c : UInt8} (h : l.all okB = true) (hc : okB c = false) : c ∉ l := fun hm => by
  have h1 := List.all_eq_true.1 h c hm
  rw [hc] at h1
  exact absurd h1 (by simp)
theorem nameB_ok {l : List UInt8} (h : nameB l = true) : l.all okB = true ∧ l.length ≤ 12 := by
  unfold nameB at h
  cases l with
  | nil => exact absurd h (by simp)
  | cons c r =>
    simp only [Bool.and_eq_true, decide_eq_true_eq] at h
    refine ⟨h.2, ?_⟩
    have := h.1.1
    simp
    omega
theorem chB_nums {c : Ch} (h : chB c = true) : c.name.data.toList.all okB = true ∧ c.unit.data.toList.all okB = true ∧ -1000000000 ≤ c.low ∧ c.low ≤ 1000000000 ∧ -1000000000 ≤ c.high ∧ c.high ≤ 1000000000 := by
  unfold chB at h
  simp only [Bool.and_eq_true] at h
  obtain ⟨h1, h2, h3, h4, _⟩ := h
  have h5 := inB_true h3
  have h6 := inB_true h4
  exact ⟨(nameB_ok h1).1, (nameB_ok h2).1, h5.1, h5.2, h6.1, h6.2⟩
theorem ch_words {c : Ch} (h : chB c = true) : splitL 32 (chTx c) = [wCh, c.name.data.toList, c.unit.data.toList, Lib.itoa c.low, Lib.itoa c.high] := by
  obtain ⟨h1, h2, _⟩ := chB_nums h
  refine split_join _ (by simp) fun x hx => ?_
  simp only [List.mem_cons, List.not_mem_nil, or_false] at hx
  rcases hx with rfl | rfl | rfl | rfl | rfl
  · decide
  · exact okB_no h1 (by decide)
  · exact okB_no h2 (by decide)
  · exact itoa_no (by decide) (by decide)
  · exact itoa_no (by decide) (by decide)
theorem bs_back (s : ByteArray) : bs s.data.toList = s := rfl
theorem sLine_ch {c : Ch} (h : chB c = true) (cs : List Ch) : sLine ⟨cs, [], []⟩ (splitL 32 (chTx c)) = some ⟨cs ++ [c], [], []⟩ := by
  obtain ⟨_, _, h3, h4, h5, h6⟩ := chB_nums h
  have e1 := decR_itoa (n := c.low) (by omega) (by omega)
  have e2 := decR_itoa (n := c.high) (by omega) (by omega)
  rw [ch_words h]
  unfold sLine
  rw [if_pos ⟨rfl, rfl, rfl, rfl⟩, if_pos ⟨by show (decR (Lib.itoa c.low)).2 = true; rw [e1], by show (decR (Lib.itoa c.high)).2 = true; rw [e2]⟩]
  show some (FlP.mk (cs ++ [⟨bs c.name.data.toList, bs c.unit.data.toList, (decR (Lib.itoa c.low)).1, (decR (Lib.itoa c.high)).1⟩]) [] []) = _
  rw [e1, e2, bs_back, bs_back]
theorem row_tx {r : List Int} (h0 : r ≠ []) (h : nums r) : sRow (comL r) = some r := by
  have e : splitL 44 (comL r) = r.map Lib.itoa := split_join _ (by simpa using h0) fun x hx => by
    obtain ⟨n, _, rfl⟩ := List.mem_map.1 hx
    exact itoa_no (by decide) (by decide)
  unfold sRow
  rw [e]
  refine allM_map fun b hb => ?_
  obtain ⟨h1, h2⟩ := h b hb
  rw [decR_itoa h1 h2]
  rfl
theorem comL_no {r : List Int} {c : UInt8} (h1 : isDg c = false) (h2 : ¬ c = 45) (h3 : ¬ c = 44) : c ∉ comL r := join_no h3 fun x hx => by
  obtain ⟨n, _, rfl⟩ := List.mem_map.1 hx
  exact itoa_no h1 h2
theorem st_words (s : List (List Int)) : splitL 32 (stTx s) = wSt :: s.map comL := by
  refine split_join _ (by simp) fun x hx => ?_
  rcases List.mem_cons.1 hx with rfl | hx
  · decide
  · obtain ⟨r, _, rfl⟩ := List.mem_map.1 hx
    exact comL_no (by decide) (by decide) (by decide)
theorem rowOk_nums {cs : List Ch} {r : List Int} (hc : ∀ c ∈ cs, chB c = true) (h : RowOk cs r) : nums r := fun x hx => by
  obtain ⟨k, hk, rfl⟩ := List.mem_iff_getElem.1 hx
  have hk2 : k < cs.length := by rw [← h.1]; exact hk
  have h1 := inB_true (h.2 k hk hk2)
  have h2 := chB_nums (hc _ (List.getElem_mem hk2))
  omega
theorem rowOk_ne {cs : List Ch} {r : List Int} (hc : 1 ≤ cs.length) (h : RowOk cs r) : r ≠ [] := fun e => by
  have := h.1
  rw [e] at this
  simp at this
  omega
theorem sLine_st {cs : List Ch} {s : List (List Int)} (hc : ∀ c ∈ cs, chB c = true) (hc1 : 1 ≤ cs.length) (h : ∀ r ∈ s, RowOk cs r) (ss : List (List (List Int))) : sLine ⟨cs, ss, []⟩ (splitL 32 (stTx s)) = some ⟨cs, ss ++ [s], []⟩ := by
  have e : allM sRow (s.map comL) = some s := allM_map fun r hr => row_tx (rowOk_ne hc1 (h r hr)) (rowOk_nums hc (h r hr))
  rw [st_words]
  unfold sLine
  rw [if_neg (fun h2 => absurd h2.1 (by show ¬ wSt = wCh; decide)), if_pos ⟨rfl, rfl⟩]
  show (match allM sRow (s.map comL) with | none => none | some r => some (addSt ⟨cs, ss, []⟩ r)) = _
  rw [e]
  rfl
theorem no_words {n : No} (h : nameB n.text.data.toList = true) : splitL 32 (noTx n) = [wNo, Lib.itoa n.fr, Lib.itoa n.til, n.text.data.toList] := by
  obtain ⟨h1, _⟩ := nameB_ok h
  refine split_join _ (by simp) fun x hx => ?_
  simp only [List.mem_cons, List.not_mem_nil, or_false] at hx
  rcases hx with rfl | rfl | rfl | rfl
  · decide
  · exact itoa_no (by decide) (by decide)
  · exact itoa_no (by decide) (by decide)
  · exact okB_no h1 (by decide)
theorem sLine_no {n : No} (h : nameB n.text.data.toList = true) (hb : 0 ≤ n.fr ∧ n.fr < n.til ∧ n.til ≤ 16) (cs : List Ch) (ss : List (List (List Int))) (ns : List No) : sLine ⟨cs, ss, ns⟩ (splitL 32 (noTx n)) = some ⟨cs, ss, ns ++ [n]⟩ := by
  have e1 := decR_itoa (n := n.fr) (by omega) (by omega)
  have e2 := decR_itoa (n := n.til) (by omega) (by omega)
  rw [no_words h]
  unfold sLine
  rw [if_neg (fun h2 => absurd h2.1 (by show ¬ wNo = wCh; decide)), if_neg (fun h2 => absurd h2.1 (by show ¬ wNo = wSt; decide)), if_pos ⟨rfl, rfl⟩, if_pos ⟨by show (decR (Lib.itoa n.fr)).2 = true; rw [e1], by show (decR (Lib.itoa n.til)).2 = true; rw [e2]⟩]
  show some (FlP.mk cs ss (ns ++ [⟨(decR (Lib.itoa n.fr)).1, (decR (Lib.itoa n.til)).1, bs n.text.data.toList⟩])) = _
  rw [e1, e2, bs_back]
theorem foldO_list {α β γ : Type} {f : β → α → Option β} {g : γ → α} {st : List γ → β} (h : ∀ (x : γ) (l : List γ), f (st l) (g x) = some (st (l ++ [x]))) : ∀ (m l : List γ), foldO f (st l) (m.map g) = some (st (l ++ m))
  | [], l => by simp [foldO]
  | x :: m, l => by
    rw [List.map_cons, foldO_cons (h x l), foldO_list h m (l ++ [x])]
    simp
theorem foldO_listm {α β γ : Type} {f : β → α → Option β} {g : γ → α} {st : List γ → β} : ∀ (m l : List γ) (_ : ∀ x ∈ m, ∀ l : List γ, f (st l) (g x) = some (st (l ++ [x]))), foldO f (st l) (m.map g) = some (st (l ++ m))
  | [], l, _ => by simp [foldO]
  | x :: m, l, h => by
    rw [List.map_cons, foldO_cons (h x (by simp) l), foldO_listm m (l ++ [x]) (fun y hy => h y (List.mem_cons_of_mem _ hy))]
    simp
theorem chB_all {p : FlP} (h : FileOk p) : ∀ c ∈ p.ch, chB c = true := fun c hc => by
  obtain ⟨j, hj, rfl⟩ := List.mem_iff_getElem.1 hc
  exact (h.chs j hj).1
theorem fileLn_no {p : FlP} (h : FileOk p) : ∀ l ∈ fileLn p, (10 : UInt8) ∉ l := fun l hl => by
  rcases List.mem_append.1 hl with hl | hl
  · obtain ⟨c, hc, rfl⟩ := List.mem_map.1 hl
    obtain ⟨h1, h2, _⟩ := chB_nums (chB_all h c hc)
    refine join_no (by decide) fun x hx => ?_
    simp only [List.mem_cons, List.not_mem_nil, or_false] at hx
    rcases hx with rfl | rfl | rfl | rfl | rfl
    · decide
    · exact okB_no h1 (by decide)
    · exact okB_no h2 (by decide)
    · exact itoa_no (by decide) (by decide)
    · exact itoa_no (by decide) (by decide)
  · rcases List.mem_append.1 hl with hl | hl
    · obtain ⟨s, _, rfl⟩ := List.mem_map.1 hl
      refine join_no (by decide) fun x hx => ?_
      rcases List.mem_cons.1 hx with rfl | hx
      · decide
      · obtain ⟨r, _, rfl⟩ := List.mem_map.1 hx
        exact comL_no (by decide) (by decide) (by decide)
    · obtain ⟨n, hm, rfl⟩ := List.mem_map.1 hl
      obtain ⟨h1, _⟩ := nameB_ok (h.nos n hm).2
      refine join_no (by decide) fun x hx => ?_
      simp only [List.mem_cons, List.not_mem_nil, or_false] at hx
      rcases hx with rfl | rfl | rfl | rfl
      · decide
      · exact itoa_no (by decide) (by decide)
      · exact itoa_no (by decide) (by decide)
      · exact okB_no h1 (by decide)
theorem noB_bd {m : Nat} {n : No} (h : noB m n = true) (hm : m ≤ 16) : 0 ≤ n.fr ∧ n.fr < n.til ∧ n.til ≤ 16 := by
  unfold noB at h
  simp only [decide_eq_true_eq] at h
  omega
theorem rdF_of {p : FlP} (h : FileOk p) : rdF sLine (fileTx p) = some p := by
  unfold rdF fileTx endLn
  rw [lines_of (fileLn_no h)]
  simp only []
  unfold fileLn
  rw [List.map_append, List.map_append, List.map_map, List.map_map, List.map_map]
  have e1 : foldO sLine fl0 (p.ch.map (splitL 32 ∘ chTx)) = some ⟨[] ++ p.ch, [], []⟩ := foldO_listm (st := fun l => (⟨l, [], []⟩ : FlP)) p.ch [] fun c hc l => sLine_ch (chB_all h c hc) l
  have e2 : foldO sLine ⟨[] ++ p.ch, [], []⟩ (p.st.map (splitL 32 ∘ stTx)) = some ⟨[] ++ p.ch, [] ++ p.st, []⟩ := foldO_listm (st := fun l => (⟨[] ++ p.ch, l, []⟩ : FlP)) p.st [] fun s hs l => sLine_st (by simpa using chB_all h) (by simpa using h.c1) (by simpa using (h.sts s hs).rows) l
  have e3 : foldO sLine ⟨[] ++ p.ch, [] ++ p.st, []⟩ (p.no.map (splitL 32 ∘ noTx)) = some ⟨[] ++ p.ch, [] ++ p.st, [] ++ p.no⟩ := foldO_listm (st := fun l => (⟨[] ++ p.ch, [] ++ p.st, l⟩ : FlP)) p.no [] fun n hn l => sLine_no (h.nos n hn).2 (noB_bd (h.nos n hn).1 h.s16) _ _ l
  rw [foldO_append e1, foldO_append e2, e3]
  rfl
theorem good_same {s : List UInt8} {p : FlP} : GoodI s p ↔ GoodS s p := by
  refine ⟨fun h => ⟨?_, h.2.1⟩, GoodS.good⟩
  have h1 := rdF_of h.2.1
  rw [h.2.2] at h1
  exact h1
theorem good_one {s : List UInt8} {p q : FlP} (h1 : GoodS s p) (h2 : GoodS s q) : p = q := by
  have := h1.1.symm.trans h2.1
  injection this
end Go.Proofs.Ytmdmjnhebbhjbaa
