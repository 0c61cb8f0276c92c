/-
  ChannelNamed and ColumnOf: what program and reference answer, as one plain function each.
-/
import Derived.Test.YtigingjpdlfanaaFileL
namespace Go.Proofs.Ytigingjpdlfanaa
set_option linter.unusedSimpArgs false
set_option linter.unusedVariables false
set_option maxRecDepth 20000
open Go.RowKit
open Go.ChangeShapes Go.WideShapes Go.Deep Go.Joins

/-- a Bool that says whether -/
def Is (b : Bool) (q : Prop) : Prop := b = true ↔ q
def cnR (b : Bool) (z : Int) : Int × Int := if b = true then (if z < 0 then (0, 3) else (z, 0)) else (0, 1)
theorem cnR_no (z : Int) : cnR false z = (0, 1) := rfl
theorem cnR_none {z : Int} (h : z < 0) : cnR true z = (0, 3) := by unfold cnR; rw [if_pos rfl, if_pos h]
theorem cnR_yes {z : Int} (h : ¬ z < 0) : cnR true z = (z, 0) := by unfold cnR; rw [if_pos rfl, if_neg h]
theorem idxZ_bd (cs : List Ch) (s : ByteArray) : -1 ≤ idxZ cs s ∧ idxZ cs s < (cs.length : Int) := by
  unfold idxZ
  split <;> omega
theorem fcells (f : Fl) (w : World) (b : Nat) (t : TypeId) (h : Bk w b t #[.slice f.ch.A f.ch.l.length f.ch.c, .slice f.st.A f.st.l.length f.st.c, .slice f.no.A f.no.l.length f.no.c]) :
    w.cell? ⟨b, 0, none⟩ = some (.slice f.ch.A f.ch.l.length f.ch.c) ∧ w.cell? ⟨b, 1, none⟩ = some (.slice f.st.A f.st.l.length f.st.c) ∧ w.cell? ⟨b, 2, none⟩ = some (.slice f.no.A f.no.l.length f.no.c) ∧ b < w.heap.size := ⟨h.cell 0, h.cell 1, h.cell 2, h.lt⟩
theorem stOk_at {p : FlP} {f : Fl} (h : FileOk p) (hp : filePl f = p) {k : Nat} (hk : k < f.st.l.length) : 1 ≤ f.st.l[k].l.length ∧ f.st.l[k].l.length ≤ 60 ∧ ∀ j (h : j < f.st.l[k].l.length), RowOk f.ch.l f.st.l[k].l[j].l := by
  subst hp
  have h1 := fileOk_iff.1 h
  exact stOk_iff.1 (h1.2.2.2.2.2.1 k hk hk)
set_option maxHeartbeats 4000000 in
theorem iChannelNamed_L (f : Fl) (p : FlP) (s : ByteArray) (b : Bool) (z x y : Int) (w : World) (h : FileRd w f) (hp : filePl f = p) (hs : PlSz p) (ht : PlTx p) (hb : b = true ↔ FileOk p) (hz : Hid (idxZ p.ch s = z)) (hR : Hid (cnR b z = (x, y))) :
    Calls Try.prog 27 #[.agg #[.slice f.ch.A f.ch.l.length f.ch.c, .slice f.st.A f.st.l.length f.st.c, .slice f.no.A f.no.l.length f.no.c], .string s] w fun e w' => e = .returned (.tuple #[.int .i64 x, .int .i64 y]) ∧ Below w.heap.size w w' := by
  have HV : Is b (FileOk p) := hb
  have hpc : Hid (f.ch.l = p.ch) := congrArg FlP.ch hp
  clear hb
  have HK : Hid (Bk (w.alloc (.cells #[.slice f.ch.A f.ch.l.length f.ch.c, .slice f.st.A f.st.l.length f.st.c, .slice f.no.A f.no.l.length f.no.c] 30)) w.heap.size 30 #[.slice f.ch.A f.ch.l.length f.ch.c, .slice f.st.A f.st.l.length f.st.c, .slice f.no.A f.no.l.length f.no.c]) := Bk.new w _ _
  have HA := Lib.hid (h.alloc (.cells #[.slice f.ch.A f.ch.l.length f.ch.c, .slice f.st.A f.st.l.length f.st.c, .slice f.no.A f.no.l.length f.no.c] 30))
  clear h
  cases b
  · have h2 := hR.out
    rw [cnR_no] at h2
    injection h2 with e1 e2
    subst e1; subst e2
    go_enter Try.func27, Try.ntmps27
    go_wp2_with fail
    refine (iValid_L f p false _ HA.out hp hs ht HV).mono ?_
    rintro e w2 ⟨rfl, hb2⟩
    have hW : Below w.heap.size w w2 := Below.next (by go_grown) hb2
    clear hb2
    go_wp2_with fail
    refine bodyPost_ret (by simp [results, Try.results27, go_sem, *]; try rfl) rfl ?_
    exact ⟨rfl, hW⟩
  · cases hz0 : decide (z < 0)
    · have hz1 : ¬ z < 0 := by simpa using hz0
      have h2 := hR.out
      rw [cnR_yes hz1] at h2
      injection h2 with e1 e2
      subst e1; subst e2
      clear hz1
      go_enter Try.func27, Try.ntmps27
      go_wp2_with fail
      refine (iValid_L f p true _ HA.out hp hs ht HV).mono ?_
      rintro e w2 ⟨rfl, hb2⟩
      have hW : Below w.heap.size w w2 := Below.next (by go_grown) hb2
      have HA2 := Lib.hid (HA.out.below hb2)
      obtain ⟨q0, _, _, ql⟩ := fcells f _ _ _ (HK.out.next hb2)
      clear hb2
      go_wp2_with fail
      refine (indexOf_any _ _ _ f.ch.l s z _ HA2.out.ch.1 rfl (by rw [hpc.out]; exact hs.ch) (by rw [Hid, hpc.out]; exact hz.out)).mono ?_
      rintro e w3 ⟨rfl, hb3⟩
      have hW3 := Below.next hW hb3
      clear hb3
      go_wp2_with fail
      refine bodyPost_ret (by simp [results, Try.results27, go_sem, *]; try rfl) rfl ?_
      exact ⟨rfl, hW3⟩
    · have hz1 : z < 0 := by simpa using hz0
      have h2 := hR.out
      rw [cnR_none hz1] at h2
      injection h2 with e1 e2
      subst e1; subst e2
      clear hz1
      go_enter Try.func27, Try.ntmps27
      go_wp2_with fail
      refine (iValid_L f p true _ HA.out hp hs ht HV).mono ?_
      rintro e w2 ⟨rfl, hb2⟩
      have hW : Below w.heap.size w w2 := Below.next (by go_grown) hb2
      have HA2 := Lib.hid (HA.out.below hb2)
      obtain ⟨q0, _, _, ql⟩ := fcells f _ _ _ (HK.out.next hb2)
      clear hb2
      go_wp2_with fail
      refine (indexOf_any _ _ _ f.ch.l s z _ HA2.out.ch.1 rfl (by rw [hpc.out]; exact hs.ch) (by rw [Hid, hpc.out]; exact hz.out)).mono ?_
      rintro e w3 ⟨rfl, hb3⟩
      have hW3 := Below.next hW hb3
      clear hb3
      go_wp2_with fail
      refine bodyPost_ret (by simp [results, Try.results27, go_sem, *]; try rfl) rfl ?_
      exact ⟨rfl, hW3⟩
set_option maxHeartbeats 4000000 in
theorem sChannelNamed_L (f : Fl) (p : FlP) (s : ByteArray) (b : Bool) (z x y : Int) (w : World) (h : FileRd w f) (hp : filePl f = p) (hs : PlSz p) (ht : PlTx p) (hb : b = true ↔ FileOk p) (hz : Hid (idxZ p.ch s = z)) (hR : Hid (cnR b z = (x, y))) :
    Calls Try.prog 26 #[.agg #[.slice f.ch.A f.ch.l.length f.ch.c, .slice f.st.A f.st.l.length f.st.c, .slice f.no.A f.no.l.length f.no.c], .string s] w fun e w' => e = .returned (.tuple #[.int .i64 x, .int .i64 y]) ∧ Below w.heap.size w w' := by
  have HV : Is b (FileOk p) := hb
  have hpc : Hid (f.ch.l = p.ch) := congrArg FlP.ch hp
  clear hb
  have HK : Hid (Bk (w.alloc (.cells #[.slice f.ch.A f.ch.l.length f.ch.c, .slice f.st.A f.st.l.length f.st.c, .slice f.no.A f.no.l.length f.no.c] 30)) w.heap.size 30 #[.slice f.ch.A f.ch.l.length f.ch.c, .slice f.st.A f.st.l.length f.st.c, .slice f.no.A f.no.l.length f.no.c]) := Bk.new w _ _
  have HA := Lib.hid (h.alloc (.cells #[.slice f.ch.A f.ch.l.length f.ch.c, .slice f.st.A f.st.l.length f.st.c, .slice f.no.A f.no.l.length f.no.c] 30))
  clear h
  cases b
  · have h2 := hR.out
    rw [cnR_no] at h2
    injection h2 with e1 e2
    subst e1; subst e2
    go_enter Try.func26, Try.ntmps26
    go_wp2_with fail
    refine (sOk_L _ f p false _ (FBox.of_bk HK.out) HA.out hp hs ht HV).mono ?_
    rintro e w2 ⟨rfl, hb2⟩
    have hW : Below w.heap.size w w2 := Below.next (by go_grown) hb2
    clear hb2
    go_wp2_with fail
    refine bodyPost_ret (by simp [results, Try.results26, go_sem, *]; try rfl) rfl ?_
    exact ⟨rfl, hW⟩
  · cases hz0 : decide (z < 0)
    · have hz1 : ¬ z < 0 := by simpa using hz0
      have h2 := hR.out
      rw [cnR_yes hz1] at h2
      injection h2 with e1 e2
      subst e1; subst e2
      clear hz1
      go_enter Try.func26, Try.ntmps26
      go_wp2_with fail
      refine (sOk_L _ f p true _ (FBox.of_bk HK.out) HA.out hp hs ht HV).mono ?_
      rintro e w2 ⟨rfl, hb2⟩
      have hW : Below w.heap.size w w2 := Below.next (by go_grown) hb2
      have HA2 := Lib.hid (HA.out.below hb2)
      obtain ⟨q0, _, _, ql⟩ := fcells f _ _ _ (HK.out.next hb2)
      clear hb2
      go_wp2_with fail
      refine (l03Find_any _ _ _ _ f.ch.l s z _ q0 HA2.out.ch.1 rfl (by rw [hpc.out]; exact hs.ch) (by rw [Hid, hpc.out]; exact hz.out)).mono ?_
      rintro e w3 ⟨rfl, rfl⟩
      go_wp2_with fail
      refine bodyPost_ret (by simp [results, Try.results26, go_sem, *]; try rfl) rfl ?_
      exact ⟨rfl, hW⟩
    · have hz1 : z < 0 := by simpa using hz0
      have h2 := hR.out
      rw [cnR_none hz1] at h2
      injection h2 with e1 e2
      subst e1; subst e2
      clear hz1
      go_enter Try.func26, Try.ntmps26
      go_wp2_with fail
      refine (sOk_L _ f p true _ (FBox.of_bk HK.out) HA.out hp hs ht HV).mono ?_
      rintro e w2 ⟨rfl, hb2⟩
      have hW : Below w.heap.size w w2 := Below.next (by go_grown) hb2
      have HA2 := Lib.hid (HA.out.below hb2)
      obtain ⟨q0, _, _, ql⟩ := fcells f _ _ _ (HK.out.next hb2)
      clear hb2
      go_wp2_with fail
      refine (l03Find_any _ _ _ _ f.ch.l s z _ q0 HA2.out.ch.1 rfl (by rw [hpc.out]; exact hs.ch) (by rw [Hid, hpc.out]; exact hz.out)).mono ?_
      rintro e w3 ⟨rfl, rfl⟩
      go_wp2_with fail
      refine bodyPost_ret (by simp [results, Try.results26, go_sem, *]; try rfl) rfl ?_
      exact ⟨rfl, hW⟩
end Go.Proofs.Ytigingjpdlfanaa
