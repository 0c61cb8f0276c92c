/-
  The program's text of a file.
-/
import Derived.Test.YtmdmjnhebbhjbaaGreatDoorFTxL
import Derived.Test.YtmdmjnhebbhjbaaGreatDoorFileL
import Derived.Test.YtmdmjnhebbhjbaaGreatDoorColumn
import Derived.Test.YtmdmjnhebbhjbaaGreatDoorInkTxS
import Derived.Test.YtmdmjnhebbhjbaaGreatDoorBuilderK
namespace Go.Proofs.YtmdmjnhebbhjbaaGreatDoor
set_option linter.unusedSimpArgs false
set_option linter.unusedVariables false
set_option maxRecDepth 20000
open Go.RowKit
open Go.ChangeShapes Go.WideShapes Go.Deep Go.Joins

theorem ln_ch' {p : FlP} {cs : List Ch} {k : Nat} (h : cs = p.ch) (hk : k < cs.length) : endLn (lnTo3 p (k + 1) 0 0) = endLn (lnTo3 p k 0 0) ++ (chTx cs[k] ++ [10]) := by subst h; exact ln_ch hk
theorem ln_no' {p : FlP} {ns : List No} {i j k : Nat} (h : ns = p.no) (hk : k < ns.length) : endLn (lnTo3 p i j (k + 1)) = endLn (lnTo3 p i j k) ++ (noTx ns[k] ++ [10]) := by subst h; exact ln_no hk
theorem ln_st' {p : FlP} {ss : List (Sl (Sl Int))} {i k : Nat} (h : ss.map rowsK.pl = p.st) (hk : k < ss.length) :
    ∃ s, endLn (lnTo3 p i (k + 1) 0) = endLn (lnTo3 p i k 0) ++ (stTx s ++ [10]) ∧ s ∈ p.st ∧ s.length = ss[k].l.length ∧ ∀ j (h1 : j < ss[k].l.length) (h2 : j < s.length), s[j] = ss[k].l[j].l := by
  have hk2 : k < p.st.length := by rw [← h, List.length_map]; exact hk
  have e2 : p.st[k] = ss[k].l.map rowK.pl := by
    simp only [← h, List.getElem_map]
    rfl
  refine ⟨p.st[k], ln_st hk2, List.getElem_mem hk2, by rw [e2, List.length_map], fun j h1 h2 => ?_⟩
  simp only [e2, List.getElem_map]
  exact rowK_pl _
theorem decimal_bs (n : Int) (h : -1000000000000000000 < n ∧ n < 1000000000000000000) (w : World) (ht : Tab10 w) : Calls Tryz.prog 65 #[.int .i64 n] w fun e w' => e = .returned (.string (bs (Lib.itoa n))) ∧ Below w.heap.size w w' := decimal_any n (by omega) (by omega) w ht
theorem chs_cat (c : Ch) : ((((((((⟨#[99, 104, 97, 110, 110, 101, 108, 32]⟩ : ByteArray) ++ c.name) ++ ⟨#[32]⟩) ++ c.unit) ++ ⟨#[32]⟩) ++ bs (Lib.itoa c.low)) ++ ⟨#[32]⟩) ++ bs (Lib.itoa c.high)) ++ ⟨#[10]⟩ = bs (chTx c ++ [10]) := by
  obtain ⟨nm, un, lo, hi⟩ := c
  obtain ⟨x, rfl⟩ : ∃ x, nm = bs x := ⟨nm.data.toList, rfl⟩
  obtain ⟨y, rfl⟩ : ∃ x, un = bs x := ⟨un.data.toList, rfl⟩
  rw [chTx_is]
  simp only [show (⟨#[99, 104, 97, 110, 110, 101, 108, 32]⟩ : ByteArray) = bs (wCh ++ [32]) from rfl, show (⟨#[32]⟩ : ByteArray) = bs [32] from rfl, show (⟨#[10]⟩ : ByteArray) = bs [10] from rfl, bs_append, bs_list]
  simp
theorem nos_cat (n : No) : ((((((⟨#[110, 111, 116, 101, 32]⟩ : ByteArray) ++ bs (Lib.itoa n.fr)) ++ ⟨#[32]⟩) ++ bs (Lib.itoa n.til)) ++ ⟨#[32]⟩) ++ n.text) ++ ⟨#[10]⟩ = bs (noTx n ++ [10]) := by
  obtain ⟨fr, ti, tx⟩ := n
  obtain ⟨x, rfl⟩ : ∃ x, tx = bs x := ⟨tx.data.toList, rfl⟩
  rw [noTx_is]
  simp only [show (⟨#[110, 111, 116, 101, 32]⟩ : ByteArray) = bs (wNo ++ [32]) from rfl, show (⟨#[32]⟩ : ByteArray) = bs [32] from rfl, show (⟨#[10]⟩ : ByteArray) = bs [10] from rfl, bs_append, bs_list]
  simp
theorem S7.mk {W0 w' : World} {X : Nat} (h : Below W0.heap.size W0 w') (hX : X < W0.heap.size) : (∀ ko, w'.cell? ⟨X, ko, none⟩ = W0.cell? ⟨X, ko, none⟩) ∧ W0.heap.size ≤ w'.heap.size := ⟨fun ko => h.cell (p := ⟨X, ko, none⟩) hX, h.size⟩
theorem bld_text {w : World} {b base : Nat} {l x : List UInt8} {s : ByteArray} (h : Bld w b base (l ++ s.data.toList)) (e : s = bs x) : Bld w b base (l ++ x) := by rw [e, bs_list] at h; exact h
set_option maxHeartbeats 8000000 in
theorem iFileText_go (A1 A2 A3 : Option Addr) (c1 c2 c3 : Nat) (cs : List Ch) (ss : List (Sl (Sl Int))) (ns : List No) (p : FlP) (w : World) (h : FileRd w ⟨⟨A1, c1, cs⟩, ⟨A2, c2, ss⟩, ⟨A3, c3, ns⟩⟩) (hp : filePl ⟨⟨A1, c1, cs⟩, ⟨A2, c2, ss⟩, ⟨A3, c3, ns⟩⟩ = p) (hs : PlSz p) (ht : PlTx p) (hok : FileOk p) (htab : Tab10 w) :
    Calls Tryz.prog 23 #[.agg #[.slice A1 cs.length c1, .slice A2 ss.length c2, .slice A3 ns.length c3]] w fun e w' => e = .returned (.string (bs (fileTx p))) ∧ Below w.heap.size w w' := by
  have HPC : Hid (cs = p.ch) := congrArg FlP.ch hp
  have HPS : Hid (ss.map rowsK.pl = p.st) := congrArg FlP.st hp
  have HPN : Hid (ns = p.no) := congrArg FlP.no hp
  have HP := Lib.hid hp
  have HOK := Lib.hid hok
  have RSS : Hid (∀ a ∈ ss, rowsK.rd w a) := h.st.2
  obtain ⟨n1, hn1⟩ : ∃ n, cs.length = n := ⟨_, rfl⟩
  obtain ⟨n2, hn2⟩ : ∃ n, ss.length = n := ⟨_, rfl⟩
  obtain ⟨n3, hn3⟩ : ∃ n, ns.length = n := ⟨_, rfl⟩
  have RCH : Hid (Rd w A1 n1 4 (rowOf chC cs)) := by rw [← hn1]; exact h.ch.1
  have RST : Hid (Rd w A2 n2 1 (rowOf hdC ss)) := by rw [← hn2]; exact h.st.1
  have RNO : Hid (Rd w A3 n3 3 (rowOf noC ns)) := by rw [← hn3]; exact h.no.1
  have N1 := Lib.hid hn1
  have N2 := Lib.hid hn2
  have N3 := Lib.hid hn3
  have hb1 : n1 ≤ 6 := by rw [← hn1, show cs = p.ch from HPC.out]; exact hok.c6
  have hb2 : n2 ≤ 16 := by rw [← hn2, ← List.length_map (f := rowsK.pl), show ss.map rowsK.pl = p.st from HPS.out]; exact hok.s16
  have hb3 : n3 ≤ 12 := by rw [← hn3, show ns = p.no from HPN.out]; exact hok.n12
  have HALL : Hid (endLn (lnTo3 p n1 n2 n3) = fileTx p) := by
    have e1 : n1 = p.ch.length := by rw [← hn1, show cs = p.ch from HPC.out]
    have e2 : n2 = p.st.length := by rw [← hn2, ← List.length_map (f := rowsK.pl), show ss.map rowsK.pl = p.st from HPS.out]
    have e3 : n3 = p.no.length := by rw [← hn3, show ns = p.no from HPN.out]
    rw [Hid, e1, e2, e3]
    exact ln_all p
  have HT := Lib.hid htab
  have HK : Hid (Bk (w.alloc (.cells #[.slice A1 cs.length c1, .slice A2 ss.length c2, .slice A3 ns.length c3] 26)) w.heap.size 26 #[.slice A1 cs.length c1, .slice A2 ss.length c2, .slice A3 ns.length c3]) := Bk.new w _ _
  have HA := Lib.hid (h.alloc (.cells #[.slice A1 cs.length c1, .slice A2 ss.length c2, .slice A3 ns.length c3] 26))
  have HV : Is true (FileOk p) := ⟨fun _ => hok, fun _ => rfl⟩
  have hcv := iValid_L ⟨⟨A1, c1, cs⟩, ⟨A2, c2, ss⟩, ⟨A3, c3, ns⟩⟩ p true _ HA.out hp hs ht HV
  clear h hp hok htab hn1 hn2 hn3
  go_enter Tryz.func23, Tryz.ntmps23
  go_wp2_with fail
  refine hcv.mono ?_
  rintro e w2 ⟨rfl, hb2⟩
  have hT2 : Below w.heap.size w w2 := Below.next (by go_grown) hb2
  have HK2 := Lib.hid (HK.out.next hb2)
  have HKL : Hid (w.heap.size < w2.heap.size) := HK2.out.lt
  have hkl := HKL.out
  have hbld := Lib.hid (Bld.fresh w2 (w2.heap.size + 1))
  have q0 : w2.cell? ⟨w.heap.size, 0, none⟩ = some (.slice A1 n1 c1) := by rw [← N1.out]; exact HK2.out.cell 0
  clear hb2 hcv
  go_wp2_with fail
  clear q0
  go_loopw [18] (fun i wr => ∃ k : Nat, k ≤ n1 ∧ i = .int .i64 (k : Int) ∧ Hid (Bld wr w2.heap.size (w2.heap.size + 1) (endLn (lnTo3 p k 0 0))) ∧ Apart w2.heap.size (w2.heap.size + 1) (w2.alloc (.cells #[.pointer none, .slice none 0 0] 103)) wr) (fun i _ => n1 - (intOf i).toNat)
  case atStart => exact ⟨0, Nat.zero_le _, rfl, by rw [ln_zero]; exact hbld.out, Apart.refl _ _ _⟩
  case round =>
    obtain ⟨wo, rfl⟩ : ∃ x, x = wr := ⟨wr, rfl⟩
    obtain ⟨k, hkk, rfl, hbkwo, hAwo⟩ := hrel
    have hAswo := hAwo.size
    simp only [World.size_alloc] at hAswo
    have hABwo : Below w2.heap.size (w2.alloc (.cells #[.pointer none, .slice none 0 0] 103)) wo := hAwo.below (Nat.le_refl _) (by omega)
    have hWwo : Below w.heap.size w wo := Below.next hT2 (((Below.refl _ _).alloc (Nat.le_refl _) _).trans hABwo)
    have HKwo := Lib.hid ((HK2.out.alloc (.cells #[.pointer none, .slice none 0 0] 103)).below hABwo HKL.out)
    have hglwo := HKwo.out.lt
    have hle : Hid ((endLn (lnTo3 p k 0 0)).length ≤ 250000) := lnTo3_le HOK.out k 0 0
    by_cases hlt : k < n1
    · have ka : k < cs.length := by rw [N1.out]; exact hlt
      obtain ⟨b1, o1, rfl, l1, d⟩ := (RCH.out.below hWwo).at chC_len N1.out ka
      have hch := chB_all HOK.out cs[k] (by rw [← show cs = p.ch from HPC.out]; exact List.getElem_mem ka)
      have hnx := Lib.hid (ln_ch' HPC.out ka)
      have hcl := chTx_le hch
      obtain ⟨z1, z2⟩ := ok_ch hch
      obtain ⟨_, _, y1, y2, y3, y4⟩ := chB_nums hch
      obtain ⟨c, hc⟩ : ∃ c, cs[k] = c := ⟨_, rfl⟩
      rw [hc] at d hnx hcl z1 z2 y1 y2 y3 y4
      have d0 : wo.cell? ⟨b1, o1 + k * 4, none⟩ = some (.string c.name) := d 0 _ rfl
      have d1 : wo.cell? ⟨b1, o1 + k * 4 + 1, none⟩ = some (.string c.unit) := d 1 _ rfl
      have d2 : wo.cell? ⟨b1, o1 + k * 4 + 2, none⟩ = some (.int .i64 c.low) := d 2 _ rfl
      have d3 : wo.cell? ⟨b1, o1 + k * 4 + 3, none⟩ = some (.int .i64 c.high) := d 3 _ rfl
      have hk0 : (0 : Int) ≤ (k : Int) := by omega
      have hkn : (k : Int) < (n1 : Int) := by omega
      have HN1 : Hid (-1000000000000000000 < c.low ∧ c.low < 1000000000000000000) := ⟨by omega, by omega⟩
      have HN2 : Hid (-1000000000000000000 < c.high ∧ c.high < 1000000000000000000) := ⟨by omega, by omega⟩
      obtain ⟨acc, hacc⟩ : ∃ acc, endLn (lnTo3 p k 0 0) = acc := ⟨_, rfl⟩
      rw [hacc] at hbkwo hle hnx
      have hcat := Lib.hid (chs_cat c)
      have hmem : chTx c ++ [10] = chTx c ++ [10] := rfl
      have i1 := itoa_19 y1 y2
      have i2 := itoa_19 y3 y4
      have g1 : (bs (Lib.itoa c.low)).size ≤ 19 := by rw [bs_size]; exact i1
      have g2 : (bs (Lib.itoa c.high)).size ≤ 19 := by rw [bs_size]; exact i2
      have g3 : (⟨#[99, 104, 97, 110, 110, 101, 108, 32]⟩ : ByteArray).size = 8 := rfl
      have g4 : (⟨#[32]⟩ : ByteArray).size = 1 := rfl
      have g5 : (⟨#[10]⟩ : ByteArray).size = 1 := rfl
      have s1 : ¬ 9223372036854775807 < 8 + c.name.size := by omega
      have s2 : ¬ 9223372036854775807 < 8 + c.name.size + 1 := by omega
      have s3 : ¬ 9223372036854775807 < 8 + c.name.size + 1 + c.unit.size := by omega
      have s4 : ¬ 9223372036854775807 < 8 + c.name.size + 1 + c.unit.size + 1 := by omega
      have s5 : ¬ 9223372036854775807 < 8 + c.name.size + 1 + c.unit.size + 1 + (bs (Lib.itoa c.low)).size := by omega
      have s6 : ¬ 9223372036854775807 < 8 + c.name.size + 1 + c.unit.size + 1 + (bs (Lib.itoa c.low)).size + 1 := by omega
      have s7 : ¬ 9223372036854775807 < 8 + c.name.size + 1 + c.unit.size + 1 + (bs (Lib.itoa c.low)).size + 1 + (bs (Lib.itoa c.high)).size := by omega
      have s8 : ¬ 9223372036854775807 < 8 + c.name.size + 1 + c.unit.size + 1 + (bs (Lib.itoa c.low)).size + 1 + (bs (Lib.itoa c.high)).size + 1 := by omega
      have hDu : Below wo.heap.size wo (wo.alloc (.cells #[.string c.name, .string c.unit, .int .i64 c.low, .int .i64 c.high] 90)) := (Below.refl _ _).alloc (Nat.le_refl _) _
      have hbkwu : Hid (Bld (wo.alloc (.cells #[.string c.name, .string c.unit, .int .i64 c.low, .int .i64 c.high] 90)) w2.heap.size (w2.heap.size + 1) acc) := hbkwo.out.keep hDu (by omega) (Nat.le_refl _)
      clear d hc hacc hch y1 y2 y3 y4
      go_wp2_with fail
      refine wp_region_held_drew (S := (fun w' => (∀ ko, w'.cell? ⟨wo.heap.size, ko, none⟩ = (wo.alloc (.cells #[.string c.name, .string c.unit, .int .i64 c.low, .int .i64 c.high] 90)).cell? ⟨wo.heap.size, ko, none⟩) ∧ (wo.alloc (.cells #[.string c.name, .string c.unit, .int .i64 c.low, .int .i64 c.high] 90)).heap.size ≤ w'.heap.size)) (by kernel_rfl) ?_ (fun hHeld => ?_)
      · (try dsimp only); exact S7.mk ((Below.refl _ _).drew) (by simp)
      first | (refine take_on (i := 0) (v := ?_) rfl (by kernel_rfl) (by kernel_rfl) (by kernel_rfl) (fun _ _ _ h => h) rfl ?_ (by assumption) ?_; rotate_left; · (intro w' hSw; (try dsimp only at hSw); go_simp; (try with_reducible rfl))) | (refine take_off (i := 0) rfl (by kernel_rfl) (by kernel_rfl) (by kernel_rfl) (fun _ _ _ h => h) rfl (by assumption) ?_)
      (try simp only [Act.put, List.setIfInBounds_toArray, List.set_cons_zero, List.set_cons_succ])
      first | (refine take_on (i := 1) (v := ?_) rfl (by kernel_rfl) (by kernel_rfl) (by kernel_rfl) (fun _ _ _ h => h) rfl ?_ (by assumption) ?_; rotate_left; · (intro w' hSw; (try dsimp only at hSw); go_simp; (try with_reducible rfl))) | (refine take_off (i := 1) rfl (by kernel_rfl) (by kernel_rfl) (by kernel_rfl) (fun _ _ _ h => h) rfl (by assumption) ?_)
      (try simp only [Act.put, List.setIfInBounds_toArray, List.set_cons_zero, List.set_cons_succ])
      first | (refine take_on (i := 2) (v := ?_) rfl (by kernel_rfl) (by kernel_rfl) (by kernel_rfl) (fun _ _ _ h => h) rfl ?_ (by assumption) ?_; rotate_left; · (intro w' hSw; (try dsimp only at hSw); go_simp; (try with_reducible rfl))) | (refine take_off (i := 2) rfl (by kernel_rfl) (by kernel_rfl) (by kernel_rfl) (fun _ _ _ h => h) rfl (by assumption) ?_)
      (try simp only [Act.put, List.setIfInBounds_toArray, List.set_cons_zero, List.set_cons_succ])
      first | (refine take_on (i := 3) (v := ?_) rfl (by kernel_rfl) (by kernel_rfl) (by kernel_rfl) (fun _ _ _ h => h) rfl ?_ (by assumption) ?_; rotate_left; · (intro w' hSw; (try dsimp only at hSw); go_simp; (try with_reducible rfl))) | (refine take_off (i := 3) rfl (by kernel_rfl) (by kernel_rfl) (by kernel_rfl) (fun _ _ _ h => h) rfl (by assumption) ?_)
      (try simp only [Act.put, List.setIfInBounds_toArray, List.set_cons_zero, List.set_cons_succ])
      first | (refine take_on (i := 4) (v := ?_) rfl (by kernel_rfl) (by kernel_rfl) (by kernel_rfl) (fun _ _ _ h => h) rfl ?_ (by assumption) ?_; rotate_left; · (intro w' hSw; (try dsimp only at hSw); go_simp; (try with_reducible rfl))) | (refine take_off (i := 4) rfl (by kernel_rfl) (by kernel_rfl) (by kernel_rfl) (fun _ _ _ h => h) rfl (by assumption) ?_)
      (try simp only [Act.put, List.setIfInBounds_toArray, List.set_cons_zero, List.set_cons_succ])
      first | (refine take_on (i := 5) (v := ?_) rfl (by kernel_rfl) (by kernel_rfl) (by kernel_rfl) (fun _ _ _ h => h) rfl ?_ (by assumption) ?_; rotate_left; · (intro w' hSw; (try dsimp only at hSw); go_simp; (try with_reducible rfl))) | (refine take_off (i := 5) rfl (by kernel_rfl) (by kernel_rfl) (by kernel_rfl) (fun _ _ _ h => h) rfl (by assumption) ?_)
      (try simp only [Act.put, List.setIfInBounds_toArray, List.set_cons_zero, List.set_cons_succ])
      first | (refine take_on (i := 6) (v := ?_) rfl (by kernel_rfl) (by kernel_rfl) (by kernel_rfl) (fun _ _ _ h => h) rfl ?_ (by assumption) ?_; rotate_left; · (intro w' hSw; (try dsimp only at hSw); go_simp; (try with_reducible rfl))) | (refine take_off (i := 6) rfl (by kernel_rfl) (by kernel_rfl) (by kernel_rfl) (fun _ _ _ h => h) rfl (by assumption) ?_)
      (try simp only [Act.put, List.setIfInBounds_toArray, List.set_cons_zero, List.set_cons_succ])
      first | (refine take_on (i := 7) (v := ?_) rfl (by kernel_rfl) (by kernel_rfl) (by kernel_rfl) (fun _ _ _ h => h) rfl ?_ (by assumption) ?_; rotate_left; · (intro w' hSw; (try dsimp only at hSw); go_simp; (try with_reducible rfl))) | (refine take_off (i := 7) rfl (by kernel_rfl) (by kernel_rfl) (by kernel_rfl) (fun _ _ _ h => h) rfl (by assumption) ?_)
      (try simp only [Act.put, List.setIfInBounds_toArray, List.set_cons_zero, List.set_cons_succ])
      first | (refine take_on (i := 8) (v := ?_) rfl (by kernel_rfl) (by kernel_rfl) (by kernel_rfl) (fun _ _ _ h => h) rfl ?_ (by assumption) ?_; rotate_left; · (intro w' hSw; (try dsimp only at hSw); go_simp; (try with_reducible rfl))) | (refine take_off (i := 8) rfl (by kernel_rfl) (by kernel_rfl) (by kernel_rfl) (fun _ _ _ h => h) rfl (by assumption) ?_)
      (try simp only [Act.put, List.setIfInBounds_toArray, List.set_cons_zero, List.set_cons_succ])
      first | (refine take_on (i := 9) (v := ?_) rfl (by kernel_rfl) (by kernel_rfl) (by kernel_rfl) (fun _ _ _ h => h) rfl ?_ (by assumption) ?_; rotate_left; · (intro w' hSw; (try dsimp only at hSw); go_simp; (try with_reducible rfl))) | (refine take_off (i := 9) rfl (by kernel_rfl) (by kernel_rfl) (by kernel_rfl) (fun _ _ _ h => h) rfl (by assumption) ?_)
      (try simp only [Act.put, List.setIfInBounds_toArray, List.set_cons_zero, List.set_cons_succ])
      first | (refine take_on (i := 13) (v := ?_) rfl (by kernel_rfl) (by kernel_rfl) (by kernel_rfl) (fun _ _ _ h => h) rfl ?_ (by assumption) ?_; rotate_left; · (intro w' hSw; (try dsimp only at hSw); go_simp; (try with_reducible rfl))) | (refine take_off (i := 13) rfl (by kernel_rfl) (by kernel_rfl) (by kernel_rfl) (fun _ _ _ h => h) rfl (by assumption) ?_)
      (try simp only [Act.put, List.setIfInBounds_toArray, List.set_cons_zero, List.set_cons_succ])
      first | (refine take_on (i := 14) (v := ?_) rfl (by kernel_rfl) (by kernel_rfl) (by kernel_rfl) (fun _ _ _ h => h) rfl ?_ (by assumption) ?_; rotate_left; · (intro w' hSw; (try dsimp only at hSw); go_simp; (try with_reducible rfl))) | (refine take_off (i := 14) rfl (by kernel_rfl) (by kernel_rfl) (by kernel_rfl) (fun _ _ _ h => h) rfl (by assumption) ?_)
      (try simp only [Act.put, List.setIfInBounds_toArray, List.set_cons_zero, List.set_cons_succ])
      refine wpAnyH_ready (rs := [10]) (by kernel_rfl) (by simp) ?_
      refine AllReadyH.cons rfl (fun K hK => ?_) AllReadyH.nil
      rw [if_pos (by rfl)]
      go_simp
      go_at_call 65
      refine (decimal_bs c.low HN1.out _ (HT.out.below (by have h9 := hWwo; go_grown))).mono ?_
      rintro e w3 ⟨rfl, hb3⟩
      have hD3 : Below (wo.alloc (.cells #[.string c.name, .string c.unit, .int .i64 c.low, .int .i64 c.high] 90)).heap.size (wo.alloc (.cells #[.string c.name, .string c.unit, .int .i64 c.low, .int .i64 c.high] 90)) w3 := Below.next (by go_grown) hb3
      have hD3o : Below wo.heap.size wo w3 := hDu.trans (hD3.mono (by simp))
      have hz3 := hD3o.size
      have hbk3 := Lib.hid (hbkwo.out.keep hD3o (by omega) (Nat.le_refl _))
      refine hK.out _ _ ?_ (fun hHeld2 => ?_)
      · (try dsimp only); exact S7.mk hD3 (by simp)
      clear hK K hHeld; have hHeld := hHeld2; clear hHeld2; (try simp only [Act.put, List.setIfInBounds_toArray, List.set_cons_zero, List.set_cons_succ])
      first | (refine take_on (i := 11) (v := ?_) rfl (by kernel_rfl) (by kernel_rfl) (by kernel_rfl) (fun _ _ _ h => h) rfl ?_ (by assumption) ?_; rotate_left; · (intro w' hSw; (try dsimp only at hSw); go_simp; (try with_reducible rfl))) | (refine take_off (i := 11) rfl (by kernel_rfl) (by kernel_rfl) (by kernel_rfl) (fun _ _ _ h => h) rfl (by assumption) ?_)
      (try simp only [Act.put, List.setIfInBounds_toArray, List.set_cons_zero, List.set_cons_succ])
      first | (refine take_on (i := 12) (v := ?_) rfl (by kernel_rfl) (by kernel_rfl) (by kernel_rfl) (fun _ _ _ h => h) rfl ?_ (by assumption) ?_; rotate_left; · (intro w' hSw; (try dsimp only at hSw); go_simp; (try with_reducible rfl))) | (refine take_off (i := 12) rfl (by kernel_rfl) (by kernel_rfl) (by kernel_rfl) (fun _ _ _ h => h) rfl (by assumption) ?_)
      (try simp only [Act.put, List.setIfInBounds_toArray, List.set_cons_zero, List.set_cons_succ])
      refine wpAnyH_ready (rs := [15]) (by kernel_rfl) (by simp) ?_
      refine AllReadyH.cons rfl (fun K hK => ?_) AllReadyH.nil
      rw [if_pos (by rfl)]
      go_simp
      go_at_call 65
      refine (decimal_bs c.high HN2.out _ (HT.out.below (Below.next hWwo hD3o))).mono ?_
      rintro e w4 ⟨rfl, hb4⟩
      have hD4o : Below wo.heap.size wo w4 := hD3o.trans (hb4.mono (by omega))
      have hD4 : Below (wo.alloc (.cells #[.string c.name, .string c.unit, .int .i64 c.low, .int .i64 c.high] 90)).heap.size (wo.alloc (.cells #[.string c.name, .string c.unit, .int .i64 c.low, .int .i64 c.high] 90)) w4 := Below.next hD3 hb4
      have hz4 := hD4o.size
      have hbk4 := Lib.hid (hbkwo.out.keep hD4o (by omega) (Nat.le_refl _))
      refine hK.out _ _ ?_ (fun hHeld2 => ?_)
      · (try dsimp only); exact S7.mk hD4 (by simp)
      clear hK K hHeld; have hHeld := hHeld2; clear hHeld2; (try simp only [Act.put, List.setIfInBounds_toArray, List.set_cons_zero, List.set_cons_succ])
      first | (refine take_on (i := 16) (v := ?_) rfl (by kernel_rfl) (by kernel_rfl) (by kernel_rfl) (fun _ _ _ h => h) rfl ?_ (by assumption) ?_; rotate_left; · (intro w' hSw; (try dsimp only at hSw); go_simp; (try with_reducible rfl))) | (refine take_off (i := 16) rfl (by kernel_rfl) (by kernel_rfl) (by kernel_rfl) (fun _ _ _ h => h) rfl (by assumption) ?_)
      (try simp only [Act.put, List.setIfInBounds_toArray, List.set_cons_zero, List.set_cons_succ])
      first | (refine take_on (i := 17) (v := ?_) rfl (by kernel_rfl) (by kernel_rfl) (by kernel_rfl) (fun _ _ _ h => h) rfl ?_ (by assumption) ?_; rotate_left; · (intro w' hSw; (try dsimp only at hSw); go_simp; (try with_reducible rfl))) | (refine take_off (i := 17) rfl (by kernel_rfl) (by kernel_rfl) (by kernel_rfl) (fun _ _ _ h => h) rfl (by assumption) ?_)
      (try simp only [Act.put, List.setIfInBounds_toArray, List.set_cons_zero, List.set_cons_succ])
      refine wpAnyH_ready (rs := [18]) (by kernel_rfl) (by simp) ?_
      refine AllReadyH.cons rfl (fun K hK => ?_) AllReadyH.nil
      rw [if_pos (by rfl)]
      go_simp
      go_at_call 64
      have hblk4 : BlK (fun k => k = wo.heap.size) w4 w2.heap.size (w2.heap.size + 1) acc := (hbkwo.out.blk.more hD4o (by omega)).weak fun k hk => by
        have hke : k = wo.heap.size := hk
        have hzz := hD4.size
        simp only [World.size_alloc] at hzz
        exact .inr ⟨by omega, by omega⟩
      refine (writeK_any (fun k => k = wo.heap.size) w2.heap.size (w2.heap.size + 1) acc _ w4 hblk4 (by omega) (by omega) (by rw [hcat.out, bs_size, List.length_append, List.length_singleton]; have := hle.out; omega)).mono ?_
      rintro e w5 ⟨rfl, hbx5, hAK5⟩
      have hbk5 := Lib.hid (bld_text hbx5.bld hcat.out)
      have hA5 := hAK5.ap
      have hz5 := hA5.size
      have hS5 : (∀ ko, w5.cell? ⟨wo.heap.size, ko, none⟩ = (wo.alloc (.cells #[.string c.name, .string c.unit, .int .i64 c.low, .int .i64 c.high] 90)).cell? ⟨wo.heap.size, ko, none⟩) ∧ (wo.alloc (.cells #[.string c.name, .string c.unit, .int .i64 c.low, .int .i64 c.high] 90)).heap.size ≤ w5.heap.size := ⟨fun ko => (World.cell?_of_block (a := ⟨wo.heap.size, ko, none⟩) (hAK5.keep _ rfl)).trans (hD4.cell (p := ⟨wo.heap.size, ko, none⟩) (by simp)), Nat.le_trans hD4.size hz5⟩
      refine hK.out _ _ ?_ (fun hHeld2 => ?_)
      · (try dsimp only); exact hS5
      clear hK K hHeld; have hHeld := hHeld2; clear hHeld2; (try simp only [Act.put, List.setIfInBounds_toArray, List.set_cons_zero, List.set_cons_succ])
      refine wpAnyH_done (by kernel_rfl) ?_ _
      clear hHeld
      go_wp2_with fail
      go_roundw
      case rel => exact ⟨k + 1, by omega, by go_num, by rw [hnx.out]; exact hbk5.out, (hAwo.trans (Apart.of_below (hD4o.mono (by omega)))).trans hA5⟩
      case measure => (simp [intOf]; try omega)
    · obtain rfl : k = n1 := by omega
      have q1 : wo.cell? ⟨w.heap.size, 1, none⟩ = some (.slice A2 n2 c2) := by rw [← N2.out]; exact HKwo.out.cell 1
      go_wp2_with fail
      clear q1
      go_loopw [45] (fun i wr => ∃ k2 : Nat, k2 ≤ n2 ∧ i = .int .i64 (k2 : Int) ∧ Hid (Bld wr w2.heap.size (w2.heap.size + 1) (endLn (lnTo3 p k k2 0))) ∧ Apart w2.heap.size (w2.heap.size + 1) (w2.alloc (.cells #[.pointer none, .slice none 0 0] 103)) wr) (fun i _ => n2 - (intOf i).toNat)
      case atStart => exact ⟨0, Nat.zero_le _, rfl, hbkwo, hAwo⟩
      case round =>
        obtain ⟨wp, rfl⟩ : ∃ x, x = wr := ⟨wr, rfl⟩
        obtain ⟨k2, hkk2, rfl, hbkwp, hAwp⟩ := hrel
        have hAswp := hAwp.size
        simp only [World.size_alloc] at hAswp
        have hABwp : Below w2.heap.size (w2.alloc (.cells #[.pointer none, .slice none 0 0] 103)) wp := hAwp.below (Nat.le_refl _) (by omega)
        have hWwp : Below w.heap.size w wp := Below.next hT2 (((Below.refl _ _).alloc (Nat.le_refl _) _).trans hABwp)
        have HKwp := Lib.hid ((HK2.out.alloc (.cells #[.pointer none, .slice none 0 0] 103)).below hABwp HKL.out)
        have hglwp := HKwp.out.lt
        have hle2 : Hid ((endLn (lnTo3 p k k2 0)).length ≤ 250000) := lnTo3_le HOK.out k k2 0
        by_cases hlt2 : k2 < n2
        · have ka : k2 < ss.length := by rw [N2.out]; exact hlt2
          obtain ⟨b1, o1, rfl, l1, d⟩ := (RST.out.below hWwp).at hdC_len N2.out ka
          have hrs := RSS.out _ (List.getElem_mem ka)
          obtain ⟨s, hnx0, hsm, hsl, hsj⟩ := ln_st' (i := k) HPS.out ka
          obtain ⟨h60, hrw⟩ := ok_rows HOK.out s hsm
          obtain ⟨Ar, cr, l, hr⟩ : ∃ Ar cr l, ss[k2] = ⟨Ar, cr, l⟩ := ⟨ss[k2].A, ss[k2].c, ss[k2].l, rfl⟩
          rw [hr] at hrs hsl hsj d
          have d0 : wp.cell? ⟨b1, o1 + k2, none⟩ = some (.slice Ar l.length cr) := by simpa [hdC, Sl.val] using d 0 _ rfl
          have hsl' : s.length = l.length := hsl
          have hsj' : ∀ j (h1 : j < l.length) (h2 : j < s.length), s[j] = l[j].l := hsj
          obtain ⟨q, hq⟩ : ∃ q, l.length = q := ⟨_, rfl⟩
          have rm : Rd w Ar l.length 1 (rowOf hdC l) := hrs.1
          have rm2 : ∀ a ∈ l, rowK.rd w a := hrs.2
          rw [hq] at rm d0 hsl'
          have hq60 : q ≤ 60 := by omega
          have RM := Lib.hid rm
          have RM2 := Lib.hid rm2
          have LQ := Lib.hid hq
          have HSJ := Lib.hid hsj'
          have HSL := Lib.hid hsl'
          have HRW := Lib.hid hrw
          have HNX := Lib.hid hnx0
          have hk0 : (0 : Int) ≤ (k2 : Int) := by omega
          have hkn : (k2 : Int) < (n2 : Int) := by omega
          obtain ⟨acc, hacc⟩ : ∃ acc, endLn (lnTo3 p k k2 0) = acc := ⟨_, rfl⟩
          rw [hacc] at hbkwp hle2 HNX
          have hDu : Below wp.heap.size wp (wp.alloc (.cells #[.slice Ar q cr] 93)) := (Below.refl _ _).alloc (Nat.le_refl _) _
          have hblk : BlK (fun k => k = wp.heap.size) (wp.alloc (.cells #[.slice Ar q cr] 93)) w2.heap.size (w2.heap.size + 1) acc := (hbkwp.out.blk.more hDu (by omega)).weak fun k hk => by
            have hke : k = wp.heap.size := hk
            exact .inr ⟨by omega, by simp [hke]⟩
          have hAL := hle2.out
          clear d hr hrs hsl hsj hsl' hsj' hq rm rm2 hrw hnx0 hsm hacc h60
          go_wp2_with fail
          refine (writeK_any (fun k => k = wp.heap.size) w2.heap.size (w2.heap.size + 1) acc ⟨#[115, 116, 114, 111, 107, 101]⟩ _ hblk (by omega) (by simp only [World.size_alloc]; omega) (by have : (⟨#[115, 116, 114, 111, 107, 101]⟩ : ByteArray).size = 6 := rfl; omega)).mono ?_
          rintro e w5 ⟨rfl, hbx5, hAK5⟩
          have hA5 : Apart w2.heap.size (w2.heap.size + 1) (w2.alloc (.cells #[.pointer none, .slice none 0 0] 103)) w5 := (hAwp.trans (Apart.of_below (hDu.mono (by omega)))).trans hAK5.ap
          have hbk5 : Hid (Bld w5 w2.heap.size (w2.heap.size + 1) (acc ++ stTo s 0)) := by rw [stTo_zero]; exact hbx5.bld
          have g5 : w5.cell? ⟨wp.heap.size, 0, none⟩ = some (.slice Ar q cr) := (World.cell?_of_block (a := ⟨wp.heap.size, 0, none⟩) (hAK5.keep _ rfl)).trans (by go_simp)
          have hz5 : wp.heap.size < w5.heap.size := by have h9 := hAK5.ap.size; simp only [World.size_alloc] at h9; omega
          clear hbx5 hAK5 hblk
          go_wp2_with fail
          clear g5
          go_loopw [53] (fun i wr => ∃ j : Nat, j ≤ q ∧ i = .int .i64 (j : Int) ∧ Hid (Bld wr w2.heap.size (w2.heap.size + 1) (acc ++ stTo s j)) ∧ Apart w2.heap.size (w2.heap.size + 1) (w2.alloc (.cells #[.pointer none, .slice none 0 0] 103)) wr) (fun i _ => q - (intOf i).toNat)
          case atStart => exact ⟨0, Nat.zero_le _, rfl, hbk5, hA5⟩
          case round =>
            obtain ⟨wq, rfl⟩ : ∃ x, x = wr := ⟨wr, rfl⟩
            obtain ⟨j, hkj, rfl, hbkwq, hAwq⟩ := hrel
            have hAswq := hAwq.size
            simp only [World.size_alloc] at hAswq
            have hABwq : Below w2.heap.size (w2.alloc (.cells #[.pointer none, .slice none 0 0] 103)) wq := hAwq.below (Nat.le_refl _) (by omega)
            have hWwq : Below w.heap.size w wq := Below.next hT2 (((Below.refl _ _).alloc (Nat.le_refl _) _).trans hABwq)
            have HKwq := Lib.hid ((HK2.out.alloc (.cells #[.pointer none, .slice none 0 0] 103)).below hABwq HKL.out)
            have hglwq := HKwq.out.lt
            have hst := stTo_le HRW.out j (by rw [HSL.out]; exact hkj)
            by_cases hjlt : j < q
            · have kj : j < l.length := by rw [LQ.out]; exact hjlt
              have ks : j < s.length := by rw [HSL.out]; exact hjlt
              obtain ⟨b2, o2, rfl, l2, d2⟩ := (RM.out.below hWwq).at hdC_len LQ.out kj
              have hrr := RM2.out _ (List.getElem_mem kj)
              obtain ⟨hnum, h6⟩ := HRW.out _ (List.getElem_mem ks)
              have hnj := stTo_next ks
              have hsj := HSJ.out j kj ks
              rw [hsj] at hnum h6 hnj
              obtain ⟨A3, c3', r, hr⟩ : ∃ A3 c3 r, l[j] = ⟨A3, c3, r⟩ := ⟨l[j].A, l[j].c, l[j].l, rfl⟩
              rw [hr] at hrr hnum h6 hnj d2
              have d3 : wq.cell? ⟨b2, o2 + j, none⟩ = some (.slice A3 r.length c3') := by simpa [hdC, Sl.val] using d2 0 _ rfl
              have hnum' : nums r := hnum
              have h6' : r.length ≤ 6 := h6
              have hcl := comL_6 hnum' h6'
              have hrd : Rd wq A3 r.length 1 (rowOf iC r) := (show Rd w A3 r.length 1 (rowOf iC r) from hrr.1).below hWwq
              have hnj' : stTo s (j + 1) = stTo s j ++ (32 :: comL r) := hnj
              have HNJ := Lib.hid hnj'
              have HRD := Lib.hid hrd
              have HNUM := Lib.hid hnum'
              obtain ⟨rl, hrl⟩ : ∃ n, r.length = n := ⟨_, rfl⟩
              rw [hrl] at d3 HRD h6'
              have HRL := Lib.hid hrl
              have hj0 : (0 : Int) ≤ (j : Int) := by omega
              have hjn : (j : Int) < (q : Int) := by omega
              clear hsj hr hrr hnum h6 hnj d2 hrd hnj' hnum' hrl
              go_wp2_with fail
              refine (commasOf_any A3 rl c3' r _ HRD.out HRL.out (by omega) HNUM.out (HT.out.below hWwq)).mono ?_
              rintro e w6 ⟨rfl, hb6⟩
              have hbk6 := Lib.hid (hbkwq.out.keep hb6 (by omega) (Nat.le_refl _))
              have hA6 := hAwq.trans (Apart.of_below (hb6.mono (show w2.heap.size + 1 ≤ wq.heap.size by omega)))
              have hz6 := hb6.size
              have g1 : (⟨#[32]⟩ : ByteArray).size = 1 := rfl
              have g2 : (bs (comL r)).size ≤ 120 := by rw [bs_size]; exact hcl
              have hcat : Hid ((⟨#[32]⟩ : ByteArray) ++ bs (comL r) = bs (32 :: comL r)) := by rw [Hid, show (⟨#[32]⟩ : ByteArray) = bs [32] from rfl, bs_append]; rfl
              clear hb6 d3
              go_wp2_with fail
              refine (writeString_any w2.heap.size (w2.heap.size + 1) (acc ++ stTo s j) _ w6 hbk6.out (by omega) (by omega) (by rw [hcat.out, bs_size, List.length_append, List.length_cons]; omega)).mono ?_
              rintro e w7 ⟨rfl, hbx7, hA7⟩
              have hbk7 := Lib.hid (bld_text hbx7 hcat.out)
              clear hbx7
              go_wp2_with fail
              go_roundw
              case rel => exact ⟨j + 1, by omega, by go_num, by rw [HNJ.out, ← List.append_assoc]; exact hbk7.out, hA6.trans hA7⟩
              case measure => (simp [intOf]; try omega)
            · obtain rfl : j = q := by omega
              have hall : Hid (stTo s j = stTx s) := stTo_all (by rw [HSL.out]; exact Nat.le_refl _)
              have hcat : Hid ((⟨#[10]⟩ : ByteArray) = bs [10]) := rfl
              go_wp2_with fail
              refine (writeString_any w2.heap.size (w2.heap.size + 1) (acc ++ stTo s j) ⟨#[10]⟩ wq hbkwq.out (by omega) (by omega) (by rw [List.length_append]; have : (⟨#[10]⟩ : ByteArray).size = 1 := rfl; omega)).mono ?_
              rintro e w7 ⟨rfl, hbx7, hA7⟩
              have hbk7 := Lib.hid (bld_text hbx7 hcat.out)
              clear hbx7
              go_wp2_with fail
              go_roundw
              case rel => exact ⟨k2 + 1, by omega, by go_num, by rw [HNX.out, ← List.append_assoc, ← hall.out]; exact hbk7.out, hAwq.trans hA7⟩
              case measure => (simp [intOf]; try omega)
        · obtain rfl : k2 = n2 := by omega
          have q2 : wp.cell? ⟨w.heap.size, 2, none⟩ = some (.slice A3 n3 c3) := by rw [← N3.out]; exact HKwp.out.cell 2
          go_wp2_with fail
          clear q2
          go_loopw [67] (fun i wr => ∃ k3 : Nat, k3 ≤ n3 ∧ i = .int .i64 (k3 : Int) ∧ Hid (Bld wr w2.heap.size (w2.heap.size + 1) (endLn (lnTo3 p k k2 k3))) ∧ Apart w2.heap.size (w2.heap.size + 1) (w2.alloc (.cells #[.pointer none, .slice none 0 0] 103)) wr) (fun i _ => n3 - (intOf i).toNat)
          case atStart => exact ⟨0, Nat.zero_le _, rfl, hbkwp, hAwp⟩
          case round =>
            obtain ⟨wo, rfl⟩ : ∃ x, x = wr := ⟨wr, rfl⟩
            obtain ⟨k3, hkk3, rfl, hbkwo, hAwo⟩ := hrel
            have hAswo := hAwo.size
            simp only [World.size_alloc] at hAswo
            have hABwo : Below w2.heap.size (w2.alloc (.cells #[.pointer none, .slice none 0 0] 103)) wo := hAwo.below (Nat.le_refl _) (by omega)
            have hWwo : Below w.heap.size w wo := Below.next hT2 (((Below.refl _ _).alloc (Nat.le_refl _) _).trans hABwo)
            have HKwo := Lib.hid ((HK2.out.alloc (.cells #[.pointer none, .slice none 0 0] 103)).below hABwo HKL.out)
            have hglwo := HKwo.out.lt
            have hle4 : Hid ((endLn (lnTo3 p k k2 k3)).length ≤ 250000) := lnTo3_le HOK.out k k2 k3
            by_cases hlt3 : k3 < n3
            · have ka : k3 < ns.length := by rw [N3.out]; exact hlt3
              obtain ⟨b1, o1, rfl, l1, d⟩ := (RNO.out.below hWwo).at noC_len N3.out ka
              have hno := HOK.out.nos ns[k3] (by rw [← show ns = p.no from HPN.out]; exact List.getElem_mem ka)
              have hnx := Lib.hid (ln_no' (i := k) (j := k2) HPN.out ka)
              have hbd := noB_bd hno.1 HOK.out.s16
              have hcl := noTx_le hno.2 hbd
              have hnm := (nameB_ok hno.2).2
              obtain ⟨c, hc⟩ : ∃ c, ns[k3] = c := ⟨_, rfl⟩
              rw [hc] at d hnx hcl hbd hnm
              have htx : c.text.size ≤ 12 := hnm
              have d0 : wo.cell? ⟨b1, o1 + k3 * 3, none⟩ = some (.int .i64 c.fr) := d 0 _ rfl
              have d1 : wo.cell? ⟨b1, o1 + k3 * 3 + 1, none⟩ = some (.int .i64 c.til) := d 1 _ rfl
              have d2 : wo.cell? ⟨b1, o1 + k3 * 3 + 2, none⟩ = some (.string c.text) := d 2 _ rfl
              have hk0 : (0 : Int) ≤ (k3 : Int) := by omega
              have hkn : (k3 : Int) < (n3 : Int) := by omega
              have HN1 : Hid (-1000000000000000000 < c.fr ∧ c.fr < 1000000000000000000) := ⟨by omega, by omega⟩
              have HN2 : Hid (-1000000000000000000 < c.til ∧ c.til < 1000000000000000000) := ⟨by omega, by omega⟩
              obtain ⟨acc, hacc⟩ : ∃ acc, endLn (lnTo3 p k k2 k3) = acc := ⟨_, rfl⟩
              rw [hacc] at hbkwo hle4 hnx
              have hle := hle4
              have hcat := Lib.hid (nos_cat c)
              have i1 := itoa_19 (n := c.fr) (by omega) (by omega)
              have i2 := itoa_19 (n := c.til) (by omega) (by omega)
              have g1 : (bs (Lib.itoa c.fr)).size ≤ 19 := by rw [bs_size]; exact i1
              have g2 : (bs (Lib.itoa c.til)).size ≤ 19 := by rw [bs_size]; exact i2
              have g3 : (⟨#[110, 111, 116, 101, 32]⟩ : ByteArray).size = 5 := rfl
              have g4 : (⟨#[32]⟩ : ByteArray).size = 1 := rfl
              have g5 : (⟨#[10]⟩ : ByteArray).size = 1 := rfl
              have s1 : ¬ 9223372036854775807 < 5 + (bs (Lib.itoa c.fr)).size := by omega
              have s2 : ¬ 9223372036854775807 < 5 + (bs (Lib.itoa c.fr)).size + 1 := by omega
              have s3 : ¬ 9223372036854775807 < 5 + (bs (Lib.itoa c.fr)).size + 1 + (bs (Lib.itoa c.til)).size := by omega
              have s4 : ¬ 9223372036854775807 < 5 + (bs (Lib.itoa c.fr)).size + 1 + (bs (Lib.itoa c.til)).size + 1 := by omega
              have s5 : ¬ 9223372036854775807 < 5 + (bs (Lib.itoa c.fr)).size + 1 + (bs (Lib.itoa c.til)).size + 1 + c.text.size := by omega
              have s6 : ¬ 9223372036854775807 < 5 + (bs (Lib.itoa c.fr)).size + 1 + (bs (Lib.itoa c.til)).size + 1 + c.text.size + 1 := by omega
              have hDu : Below wo.heap.size wo (wo.alloc (.cells #[.int .i64 c.fr, .int .i64 c.til, .string c.text] 95)) := (Below.refl _ _).alloc (Nat.le_refl _) _
              clear d hc hacc hno hbd hnm
              go_wp2_with fail
              refine wp_region_held_drew (S := (fun w' => (∀ ko, w'.cell? ⟨wo.heap.size, ko, none⟩ = (wo.alloc (.cells #[.int .i64 c.fr, .int .i64 c.til, .string c.text] 95)).cell? ⟨wo.heap.size, ko, none⟩) ∧ (wo.alloc (.cells #[.int .i64 c.fr, .int .i64 c.til, .string c.text] 95)).heap.size ≤ w'.heap.size)) (by kernel_rfl) ?_ (fun hHeld => ?_)
              · (try dsimp only); exact S7.mk ((Below.refl _ _).drew) (by simp)
              first | (refine take_on (i := 0) (v := ?_) rfl (by kernel_rfl) (by kernel_rfl) (by kernel_rfl) (fun _ _ _ h => h) rfl ?_ (by assumption) ?_; rotate_left; · (intro w' hSw; (try dsimp only at hSw); go_simp; (try with_reducible rfl))) | (refine take_off (i := 0) rfl (by kernel_rfl) (by kernel_rfl) (by kernel_rfl) (fun _ _ _ h => h) rfl (by assumption) ?_)
              (try simp only [Act.put, List.setIfInBounds_toArray, List.set_cons_zero, List.set_cons_succ])
              first | (refine take_on (i := 1) (v := ?_) rfl (by kernel_rfl) (by kernel_rfl) (by kernel_rfl) (fun _ _ _ h => h) rfl ?_ (by assumption) ?_; rotate_left; · (intro w' hSw; (try dsimp only at hSw); go_simp; (try with_reducible rfl))) | (refine take_off (i := 1) rfl (by kernel_rfl) (by kernel_rfl) (by kernel_rfl) (fun _ _ _ h => h) rfl (by assumption) ?_)
              (try simp only [Act.put, List.setIfInBounds_toArray, List.set_cons_zero, List.set_cons_succ])
              first | (refine take_on (i := 5) (v := ?_) rfl (by kernel_rfl) (by kernel_rfl) (by kernel_rfl) (fun _ _ _ h => h) rfl ?_ (by assumption) ?_; rotate_left; · (intro w' hSw; (try dsimp only at hSw); go_simp; (try with_reducible rfl))) | (refine take_off (i := 5) rfl (by kernel_rfl) (by kernel_rfl) (by kernel_rfl) (fun _ _ _ h => h) rfl (by assumption) ?_)
              (try simp only [Act.put, List.setIfInBounds_toArray, List.set_cons_zero, List.set_cons_succ])
              first | (refine take_on (i := 6) (v := ?_) rfl (by kernel_rfl) (by kernel_rfl) (by kernel_rfl) (fun _ _ _ h => h) rfl ?_ (by assumption) ?_; rotate_left; · (intro w' hSw; (try dsimp only at hSw); go_simp; (try with_reducible rfl))) | (refine take_off (i := 6) rfl (by kernel_rfl) (by kernel_rfl) (by kernel_rfl) (fun _ _ _ h => h) rfl (by assumption) ?_)
              (try simp only [Act.put, List.setIfInBounds_toArray, List.set_cons_zero, List.set_cons_succ])
              first | (refine take_on (i := 10) (v := ?_) rfl (by kernel_rfl) (by kernel_rfl) (by kernel_rfl) (fun _ _ _ h => h) rfl ?_ (by assumption) ?_; rotate_left; · (intro w' hSw; (try dsimp only at hSw); go_simp; (try with_reducible rfl))) | (refine take_off (i := 10) rfl (by kernel_rfl) (by kernel_rfl) (by kernel_rfl) (fun _ _ _ h => h) rfl (by assumption) ?_)
              (try simp only [Act.put, List.setIfInBounds_toArray, List.set_cons_zero, List.set_cons_succ])
              first | (refine take_on (i := 11) (v := ?_) rfl (by kernel_rfl) (by kernel_rfl) (by kernel_rfl) (fun _ _ _ h => h) rfl ?_ (by assumption) ?_; rotate_left; · (intro w' hSw; (try dsimp only at hSw); go_simp; (try with_reducible rfl))) | (refine take_off (i := 11) rfl (by kernel_rfl) (by kernel_rfl) (by kernel_rfl) (fun _ _ _ h => h) rfl (by assumption) ?_)
              (try simp only [Act.put, List.setIfInBounds_toArray, List.set_cons_zero, List.set_cons_succ])
              refine wpAnyH_ready (rs := [2]) (by kernel_rfl) (by simp) ?_
              refine AllReadyH.cons rfl (fun K hK => ?_) AllReadyH.nil
              rw [if_pos (by rfl)]
              go_simp
              go_at_call 65
              refine (decimal_bs c.fr HN1.out _ (HT.out.below (by have h9 := hWwo; go_grown))).mono ?_
              rintro e w3 ⟨rfl, hb3⟩
              have hD3 : Below (wo.alloc (.cells #[.int .i64 c.fr, .int .i64 c.til, .string c.text] 95)).heap.size (wo.alloc (.cells #[.int .i64 c.fr, .int .i64 c.til, .string c.text] 95)) w3 := Below.next (by go_grown) hb3
              have hD3o : Below wo.heap.size wo w3 := hDu.trans (hD3.mono (by simp))
              have hz3 := hD3o.size
              refine hK.out _ _ ?_ (fun hHeld2 => ?_)
              · (try dsimp only); exact S7.mk hD3 (by simp)
              clear hK K hHeld; have hHeld := hHeld2; clear hHeld2; (try simp only [Act.put, List.setIfInBounds_toArray, List.set_cons_zero, List.set_cons_succ])
              first | (refine take_on (i := 3) (v := ?_) rfl (by kernel_rfl) (by kernel_rfl) (by kernel_rfl) (fun _ _ _ h => h) rfl ?_ (by assumption) ?_; rotate_left; · (intro w' hSw; (try dsimp only at hSw); go_simp; (try with_reducible rfl))) | (refine take_off (i := 3) rfl (by kernel_rfl) (by kernel_rfl) (by kernel_rfl) (fun _ _ _ h => h) rfl (by assumption) ?_)
              (try simp only [Act.put, List.setIfInBounds_toArray, List.set_cons_zero, List.set_cons_succ])
              first | (refine take_on (i := 4) (v := ?_) rfl (by kernel_rfl) (by kernel_rfl) (by kernel_rfl) (fun _ _ _ h => h) rfl ?_ (by assumption) ?_; rotate_left; · (intro w' hSw; (try dsimp only at hSw); go_simp; (try with_reducible rfl))) | (refine take_off (i := 4) rfl (by kernel_rfl) (by kernel_rfl) (by kernel_rfl) (fun _ _ _ h => h) rfl (by assumption) ?_)
              (try simp only [Act.put, List.setIfInBounds_toArray, List.set_cons_zero, List.set_cons_succ])
              refine wpAnyH_ready (rs := [7]) (by kernel_rfl) (by simp) ?_
              refine AllReadyH.cons rfl (fun K hK => ?_) AllReadyH.nil
              rw [if_pos (by rfl)]
              go_simp
              go_at_call 65
              refine (decimal_bs c.til HN2.out _ (HT.out.below (Below.next hWwo hD3o))).mono ?_
              rintro e w4 ⟨rfl, hb4⟩
              have hD4o : Below wo.heap.size wo w4 := hD3o.trans (hb4.mono (by omega))
              have hD4 : Below (wo.alloc (.cells #[.int .i64 c.fr, .int .i64 c.til, .string c.text] 95)).heap.size (wo.alloc (.cells #[.int .i64 c.fr, .int .i64 c.til, .string c.text] 95)) w4 := Below.next hD3 hb4
              have hz4 := hD4o.size
              refine hK.out _ _ ?_ (fun hHeld2 => ?_)
              · (try dsimp only); exact S7.mk hD4 (by simp)
              clear hK K hHeld; have hHeld := hHeld2; clear hHeld2; (try simp only [Act.put, List.setIfInBounds_toArray, List.set_cons_zero, List.set_cons_succ])
              first | (refine take_on (i := 8) (v := ?_) rfl (by kernel_rfl) (by kernel_rfl) (by kernel_rfl) (fun _ _ _ h => h) rfl ?_ (by assumption) ?_; rotate_left; · (intro w' hSw; (try dsimp only at hSw); go_simp; (try with_reducible rfl))) | (refine take_off (i := 8) rfl (by kernel_rfl) (by kernel_rfl) (by kernel_rfl) (fun _ _ _ h => h) rfl (by assumption) ?_)
              (try simp only [Act.put, List.setIfInBounds_toArray, List.set_cons_zero, List.set_cons_succ])
              first | (refine take_on (i := 9) (v := ?_) rfl (by kernel_rfl) (by kernel_rfl) (by kernel_rfl) (fun _ _ _ h => h) rfl ?_ (by assumption) ?_; rotate_left; · (intro w' hSw; (try dsimp only at hSw); go_simp; (try with_reducible rfl))) | (refine take_off (i := 9) rfl (by kernel_rfl) (by kernel_rfl) (by kernel_rfl) (fun _ _ _ h => h) rfl (by assumption) ?_)
              (try simp only [Act.put, List.setIfInBounds_toArray, List.set_cons_zero, List.set_cons_succ])
              first | (refine take_on (i := 12) (v := ?_) rfl (by kernel_rfl) (by kernel_rfl) (by kernel_rfl) (fun _ _ _ h => h) rfl ?_ (by assumption) ?_; rotate_left; · (intro w' hSw; (try dsimp only at hSw); go_simp; (try with_reducible rfl))) | (refine take_off (i := 12) rfl (by kernel_rfl) (by kernel_rfl) (by kernel_rfl) (fun _ _ _ h => h) rfl (by assumption) ?_)
              (try simp only [Act.put, List.setIfInBounds_toArray, List.set_cons_zero, List.set_cons_succ])
              first | (refine take_on (i := 13) (v := ?_) rfl (by kernel_rfl) (by kernel_rfl) (by kernel_rfl) (fun _ _ _ h => h) rfl ?_ (by assumption) ?_; rotate_left; · (intro w' hSw; (try dsimp only at hSw); go_simp; (try with_reducible rfl))) | (refine take_off (i := 13) rfl (by kernel_rfl) (by kernel_rfl) (by kernel_rfl) (fun _ _ _ h => h) rfl (by assumption) ?_)
              (try simp only [Act.put, List.setIfInBounds_toArray, List.set_cons_zero, List.set_cons_succ])
              refine wpAnyH_ready (rs := [14]) (by kernel_rfl) (by simp) ?_
              refine AllReadyH.cons rfl (fun K hK => ?_) AllReadyH.nil
              rw [if_pos (by rfl)]
              go_simp
              go_at_call 64
              have hblk4 : BlK (fun k => k = wo.heap.size) w4 w2.heap.size (w2.heap.size + 1) acc := (hbkwo.out.blk.more hD4o (by omega)).weak fun k hk => by
                have hke : k = wo.heap.size := hk
                have hzz := hD4.size
                simp only [World.size_alloc] at hzz
                exact .inr ⟨by omega, by omega⟩
              refine (writeK_any (fun k => k = wo.heap.size) w2.heap.size (w2.heap.size + 1) acc _ w4 hblk4 (by omega) (by omega) (by rw [hcat.out, bs_size, List.length_append, List.length_singleton]; have := hle.out; omega)).mono ?_
              rintro e w5 ⟨rfl, hbx5, hAK5⟩
              have hbk5 := Lib.hid (bld_text hbx5.bld hcat.out)
              have hA5 := hAK5.ap
              have hz5 := hA5.size
              have hS5 : (∀ ko, w5.cell? ⟨wo.heap.size, ko, none⟩ = (wo.alloc (.cells #[.int .i64 c.fr, .int .i64 c.til, .string c.text] 95)).cell? ⟨wo.heap.size, ko, none⟩) ∧ (wo.alloc (.cells #[.int .i64 c.fr, .int .i64 c.til, .string c.text] 95)).heap.size ≤ w5.heap.size := ⟨fun ko => (World.cell?_of_block (a := ⟨wo.heap.size, ko, none⟩) (hAK5.keep _ rfl)).trans (hD4.cell (p := ⟨wo.heap.size, ko, none⟩) (by simp)), Nat.le_trans hD4.size hz5⟩
              refine hK.out _ _ ?_ (fun hHeld2 => ?_)
              · (try dsimp only); exact hS5
              clear hK K hHeld; have hHeld := hHeld2; clear hHeld2; (try simp only [Act.put, List.setIfInBounds_toArray, List.set_cons_zero, List.set_cons_succ])
              refine wpAnyH_done (by kernel_rfl) ?_ _
              clear hHeld
              go_wp2_with fail
              go_roundw
              case rel => exact ⟨k3 + 1, by omega, by go_num, by rw [hnx.out]; exact hbk5.out, (hAwo.trans (Apart.of_below (hD4o.mono (by omega)))).trans hA5⟩
              case measure => (simp [intOf]; try omega)
            · obtain rfl : k3 = n3 := by omega
              have hbkf := hbkwo.out
              rw [HALL.out] at hbkf
              have HBK := Lib.hid hbkf
              have HW2 := hT2.size
              clear hbkf
              go_wp2_with fail
              refine (Tryz.Builder_String_any w2.heap.size w2.heap.size _ _ (HBK.out.is (Nat.le_refl _) (by omega)) (by omega)).mono ?_
              rintro e w9 ⟨rfl, hb9⟩
              have hB9 : Below w.heap.size w w9 := hWwo.trans (hb9.mono HW2)
              clear hb9
              go_wp2_with fail
              go_ret
              exact ⟨rfl, hB9⟩
end Go.Proofs.YtmdmjnhebbhjbaaGreatDoor
