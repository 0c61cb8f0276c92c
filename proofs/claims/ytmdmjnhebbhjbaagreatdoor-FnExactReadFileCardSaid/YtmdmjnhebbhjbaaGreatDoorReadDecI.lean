/-
  Reading a decimal text: the program answers as the reference.
-/
import Derived.Test.YtmdmjnhebbhjbaaGreatDoorReadDec
import Derived.Test.YtmdmjnhebbhjbaaGreatDoorShelf
import Derived.Stop.LaidErr
namespace Go.Proofs.YtmdmjnhebbhjbaaGreatDoor
set_option linter.unusedSimpArgs false
set_option linter.unusedVariables false
set_option maxRecDepth 20000
open Go.RowKit
open Go.ChangeShapes Go.WideShapes Go.Deep Go.Joins

/-- the library's variable ErrSyntax holds an error -/
def ErrIs (w : World) : Prop := ∃ tp p, w.var? Tryz.prog "strconv.ErrSyntax" = some #[.iface tp p]
theorem ErrIs.below {w w' : World} (h : ErrIs w) (hb : Below w.heap.size w w') : ErrIs w' := by
  obtain ⟨tp, p, h⟩ := h
  exact ⟨tp, p, var_below h hb⟩
theorem parse_ok (s : ByteArray) (hs : s.size ≤ 1048576) (v : Int) (h : Lib.parseIntB 64 s.data.toList = .ok v) (w : World) :
    Calls Tryz.prog 110 #[.string s, .int .i64 10, .int .i64 64] w fun e w' => e = .returned (.tuple #[.int .i64 v, .nilIface]) ∧ Below w.heap.size w w' := by
  refine (Tryz.strconv_ParseInt_10_at64_ok s (by omega) v h w).mono ?_
  rintro e w' ⟨rfl, hw⟩
  refine ⟨rfl, ?_⟩
  rcases hw with rfl | ⟨t, rfl⟩
  · exact Below.refl _ _
  · exact ⟨rfl, rfl, rfl, by rw [Lib.bytesWorld_size]; omega, fun i hi => Lib.bytesWorld_at_old w _ t i hi⟩
theorem parse_bad (s : ByteArray) (hs : s.size ≤ 1048576) (h : Lib.parseIntB 64 s.data.toList = .syntax) (w : World) (he : ErrIs w) :
    Calls Tryz.prog 110 #[.string s, .int .i64 10, .int .i64 64] w fun e w' => (∃ t N, e = .returned (.tuple #[.int .i64 0, .iface t (.pointer (some ⟨N, 0, none⟩))])) ∧ Below w.heap.size w w' := by
  obtain ⟨tp, p, he⟩ := he
  refine (Tryz.strconv_ParseInt_10_at64_syntax_var s (by omega) h tp p w he).mono ?_
  rintro e w' ⟨N, rfl, _, _, hb⟩
  exact ⟨⟨_, _, rfl⟩, hb⟩
theorem cut_any (s t : ByteArray) (ht : (⟨(tailD s.data.toList).toArray⟩ : ByteArray) = t) (w : World) :
    Calls Tryz.prog 109 #[.string s, .string ⟨#[45]⟩] w fun e w' => e = .returned (.string t) ∧ w = w' := by
  refine (Tryz.strings_TrimPrefix s ⟨#[45]⟩ w).mono ?_
  rintro e w' ⟨rfl, rfl⟩
  refine ⟨?_, rfl⟩
  rw [← ht, ← trim_is]
set_option maxHeartbeats 2000000 in
theorem iReadDecimal_any (s : ByteArray) (hs : s.size ≤ 1048576) (w : World) (ht : Tab10 w) (he : ErrIs w) :
    Calls Tryz.prog 58 #[.string s] w fun e w' => e = decV (decR s.data.toList) ∧ Below w.heap.size w w' := by
  obtain ⟨t, htt⟩ : ∃ t, (⟨(tailD s.data.toList).toArray⟩ : ByteArray) = t := ⟨_, rfl⟩
  have hts : (tailD s.data.toList).length = t.size := by rw [← htt]; rfl
  have HC := Lib.hid (cut_any s t htt)
  have HTAB := Lib.hid ht
  have HE := Lib.hid he
  have HLN := Lib.hid hts
  by_cases hlen : 1 ≤ t.size ∧ t.size ≤ 18
  · obtain ⟨hl1, hl2⟩ := hlen
    rcases parse_is (l := s.data.toList) (by omega) (by omega) with ⟨hdg, hp⟩ | ⟨hdg, hp | ⟨v, hp, ⟨hv1, hv2⟩, hne⟩⟩
    · obtain ⟨b1, b2⟩ := numD_bd (l := s.data.toList) (by omega) hdg
      have HP := Lib.hid (parse_ok s hs _ hp)
      obtain ⟨z, hz⟩ : ∃ z, numD s.data.toList = z := ⟨_, rfl⟩
      rw [hz] at HP b1 b2
      obtain ⟨y, hy⟩ : ∃ y, (⟨(Lib.itoa z).toArray⟩ : ByteArray) = y := ⟨_, rfl⟩
      have hdec := decimal_any z (by omega) (by omega)
      rw [hy] at hdec
      have HDEC := Lib.hid hdec
      cases hq : (Lib.itoa z == s.data.toList)
      · have hr : Hid (decR s.data.toList = (0, false)) := decR_txt (by rw [hz]; exact fun e => by rw [e] at hq; simp at hq)
        have hteq := txt_eq hy hq
        clear hq hy hdec hz hp hdg hts htt ht he
        go_enter Tryz.func58, Tryz.ntmps58
        go_wp2_with (go_at_call 109; refine (HC.out _).mono ?_; rintro e w' ⟨rfl, rfl⟩)
        refine (HP.out _).mono ?_
        rintro e w1 ⟨rfl, hb1⟩
        go_wp2_with fail
        refine (HDEC.out _ (HTAB.out.below hb1)).mono ?_
        rintro e w2 ⟨rfl, hb2⟩
        have hB := Below.next hb1 hb2
        go_wp2_with fail
        refine bodyPost_ret (by simp [results, Tryz.results58, go_sem, *]; try rfl) rfl ?_
        exact ⟨by rw [hr.out]; rfl, hB⟩
      · have hr : Hid (decR s.data.toList = (z, true)) := by
          rw [Hid, ← hz]
          exact decR_ok (by omega) (by omega) hdg (by rw [hz]; simpa using hq)
        have hteq := txt_eq hy hq
        clear hq hy hdec hz hp hdg hts htt ht he
        go_enter Tryz.func58, Tryz.ntmps58
        go_wp2_with (go_at_call 109; refine (HC.out _).mono ?_; rintro e w' ⟨rfl, rfl⟩)
        refine (HP.out _).mono ?_
        rintro e w1 ⟨rfl, hb1⟩
        go_wp2_with fail
        refine (HDEC.out _ (HTAB.out.below hb1)).mono ?_
        rintro e w2 ⟨rfl, hb2⟩
        have hB := Below.next hb1 hb2
        go_wp2_with fail
        refine bodyPost_ret (by simp [results, Tryz.results58, go_sem, *]; try rfl) rfl ?_
        exact ⟨by rw [hr.out]; rfl, hB⟩
    · have HP := Lib.hid (parse_bad s hs hp)
      have hr := Lib.hid (decR_dg hdg)
      clear hp hdg hts htt ht he
      go_enter Tryz.func58, Tryz.ntmps58
      go_wp2_with (go_at_call 109; refine (HC.out _).mono ?_; rintro e w' ⟨rfl, rfl⟩)
      refine (HP.out _ HE.out).mono ?_
      rintro e w1 ⟨⟨tt, N, rfl⟩, hb1⟩
      go_wp2_with fail
      refine bodyPost_ret (by simp [results, Tryz.results58, go_sem, *]; try rfl) rfl ?_
      exact ⟨by rw [hr.out]; rfl, hb1⟩
    · have HP := Lib.hid (parse_ok s hs _ hp)
      have hr := Lib.hid (decR_dg hdg)
      obtain ⟨y, hy⟩ : ∃ y, (⟨(Lib.itoa v).toArray⟩ : ByteArray) = y := ⟨_, rfl⟩
      have hdec := decimal_any v (by omega) (by omega)
      rw [hy] at hdec
      have HDEC := Lib.hid hdec
      have hq : (Lib.itoa v == s.data.toList) = false := by simpa using hne
      have hteq := txt_eq hy hq
      clear hq hy hdec hne hp hdg hts htt ht he
      go_enter Tryz.func58, Tryz.ntmps58
      go_wp2_with (go_at_call 109; refine (HC.out _).mono ?_; rintro e w' ⟨rfl, rfl⟩)
      refine (HP.out _).mono ?_
      rintro e w1 ⟨rfl, hb1⟩
      go_wp2_with fail
      refine (HDEC.out _ (HTAB.out.below hb1)).mono ?_
      rintro e w2 ⟨rfl, hb2⟩
      have hB := Below.next hb1 hb2
      go_wp2_with fail
      refine bodyPost_ret (by simp [results, Tryz.results58, go_sem, *]; try rfl) rfl ?_
      exact ⟨by rw [hr.out]; rfl, hB⟩
  · have hr := Lib.hid (decR_len (l := s.data.toList) (by rw [hts]; exact hlen))
    clear hts htt ht he
    by_cases h18 : t.size < 1
    · go_enter Tryz.func58, Tryz.ntmps58
      go_wp2_with (go_at_call 109; refine (HC.out _).mono ?_; rintro e w' ⟨rfl, rfl⟩)
      refine bodyPost_ret (by simp [results, Tryz.results58, go_sem, *]; try rfl) rfl ?_
      exact ⟨by rw [hr.out]; rfl, Below.refl _ _⟩
    · have h19 : 18 < t.size := by omega
      go_enter Tryz.func58, Tryz.ntmps58
      go_wp2_with (go_at_call 109; refine (HC.out _).mono ?_; rintro e w' ⟨rfl, rfl⟩)
      refine bodyPost_ret (by simp [results, Tryz.results58, go_sem, *]; try rfl) rfl ?_
      exact ⟨by rw [hr.out]; rfl, Below.refl _ _⟩
end Go.Proofs.YtmdmjnhebbhjbaaGreatDoor
