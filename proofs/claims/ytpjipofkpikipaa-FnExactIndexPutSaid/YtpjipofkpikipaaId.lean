/- The program's index functions: IndexOf, IndexValid, IndexFirst, IndexPut. No condition but on sizes. -/
import Derived.Test.YtpjipofkpikipaaIc
namespace Go.Proofs.Ytpjipofkpikipaa
open Go.RowKit
def rowsB (rs : List RowV) : Bool := (rs.map RowV.xs).all vecB
theorem rows_false {rs : List RowV} {k : Nat} {r : RowV} (hk : rs[k]? = some r) (h : vecB r.xs = false) : rowsB rs = false := by
  unfold rowsB
  rw [List.all_eq_false]
  exact ⟨r.xs, List.mem_map.2 ⟨r, List.mem_of_getElem? hk, rfl⟩, by simp [h]⟩
theorem rows_take_succ {rs : List RowV} {k : Nat} {r : RowV} (hk : rs[k]? = some r) (h : vecB r.xs = true) (h0 : rowsB (rs.take k) = true) : rowsB (rs.take (k + 1)) = true := by
  unfold rowsB at *
  rw [take_succ_some hk, List.map_append, List.all_append, h0]; simp [h]
theorem rows_all {rs : List RowV} (h : rowsB rs = true) : ∀ r, r ∈ rs → vecB r.xs = true := by
  intro r hr
  unfold rowsB at h
  rw [List.all_eq_true] at h
  exact h _ (List.mem_map.2 ⟨r, hr, rfl⟩)
theorem clo1_any (A : Option Addr) (c lo hi : Nat) (ys : List Int) (w : World) (hI : Ints w lo hi A c ys) (hl : ys.length ≤ 1048576) :
    Calls Try.prog 43 #[.slice A ys.length c] w fun e w' => e = .returned (.bool (!(vecB ys))) ∧ w = w' := by
  have HI := Lib.hid hI; clear hI
  go_enter Try.func43, Try.ntmps43
  go_wp2_with fail
  refine (vecValid_any _ _ _ _ ys _ HI.out hl).mono ?_; rintro e w' ⟨rfl, rfl⟩
  go_wp2_with fail
  go_ret
  exact ⟨by simp, rfl⟩
theorem indexRows1_any (A : Option Addr) (c lo hi : Nat) (rs : List RowV) (w : World) (hI : Rws w lo hi A c rs) (hl : rs.length ≤ 1048576) (hn : ∀ r, r ∈ rs → r.xs.length ≤ 1048576) :
    Calls Try.prog 63 #[.slice A rs.length c, .func (.func 43) #[] #[]] w fun e w' => (∃ r : Int, e = .returned (.int .i64 r) ∧ decide (0 ≤ r) = !(rowsB rs)) ∧ w = w' := by
  have HI := Lib.hid hI; clear hI
  have HN := Lib.hid hn; clear hn
  go_enter Try.func63, Try.ntmps63
  go_wp2_with fail
  go_loop [8] (fun i => ∃ k : Nat, k ≤ rs.length ∧ i = .int .i64 k ∧ rowsB (rs.take k) = true) (fun i => rs.length - (intOf i).toNat)
  case atStart => exact ⟨0, by omega, rfl, rfl⟩
  case round =>
    obtain ⟨k, hk, rfl, hall⟩ := hrel
    have HL := Lib.hid hall; clear hall
    by_cases hlt : k < rs.length
    · obtain ⟨b, off, r, rfl, hr, hc, _, _, hI⟩ := HI.out.at_ hlt
      have hnr := HN.out r (List.mem_of_getElem? hr)
      have HR := Lib.hid hr; clear hr
      have HIr := Lib.hid hI; clear hI
      have hklt : (k : Int) < rs.length := by omega
      cases hin : vecB r.xs
      · have HH1 := Lib.hid (rows_false HR.out hin)
        have HV := Lib.hid hin; clear hin
        go_wp2_with fail
        refine (clo1_any _ _ _ _ r.xs _ HIr.out hnr).mono ?_; rintro e w' ⟨rfl, rfl⟩
        rw [HV.out]
        go_wp2_with fail
        go_ret
        refine ⟨⟨k, by simp, ?_⟩, rfl⟩
        rw [HH1.out]; simp
      · have HH1 := Lib.hid (rows_take_succ HR.out hin HL.out)
        have HV := Lib.hid hin; clear hin
        go_wp2_with fail
        refine (clo1_any _ _ _ _ r.xs _ HIr.out hnr).mono ?_; rintro e w' ⟨rfl, rfl⟩
        rw [HV.out]
        go_wp2_with fail
        go_round
        case rel => exact ⟨k + 1, by omega, by go_num, HH1.out⟩
        case measure => simp [intOf]; omega
    · have HH1 : Hid (rowsB rs = true) := by
        have := HL.out
        rwa [show k = rs.length by omega, List.take_length] at this
      go_wp2_with fail
      go_ret
      refine ⟨⟨-1, by simp, ?_⟩, rfl⟩
      rw [HH1.out]; rfl
theorem containsRows1_any (A : Option Addr) (c lo hi : Nat) (rs : List RowV) (w : World) (hI : Rws w lo hi A c rs) (hl : rs.length ≤ 1048576) (hn : ∀ r, r ∈ rs → r.xs.length ≤ 1048576) :
    Calls Try.prog 42 #[.slice A rs.length c, .func (.func 43) #[] #[]] w fun e w' => e = .returned (.bool (!(rowsB rs))) ∧ w = w' := by
  have HI := Lib.hid hI; clear hI
  have HN := Lib.hid hn; clear hn
  go_enter Try.func42, Try.ntmps42
  go_wp2_with fail
  refine (indexRows1_any _ _ _ _ rs _ HI.out hl HN.out).mono ?_; rintro e w' ⟨⟨r, rfl, hr⟩, rfl⟩
  have HR := Lib.hid hr; clear hr
  go_wp2_with fail
  go_ret
  refine ⟨?_, rfl⟩
  rw [← HR.out]; rfl
theorem clo2_any (A : Option Addr) (c lo hi : Nat) (ys : List Int) (w : World) (hI : Ints w lo hi A c ys) (hl : ys.length ≤ 1048576) :
    Calls Try.prog 54 #[.slice A ys.length c] w fun e w' => e = .returned (.bool (!(vecB ys))) ∧ w = w' := by
  have HI := Lib.hid hI; clear hI
  go_enter Try.func54, Try.ntmps54
  go_wp2_with fail
  refine (vecValid_any _ _ _ _ ys _ HI.out hl).mono ?_; rintro e w' ⟨rfl, rfl⟩
  go_wp2_with fail
  go_ret
  exact ⟨by simp, rfl⟩
theorem indexRows2_any (A : Option Addr) (c lo hi : Nat) (rs : List RowV) (w : World) (hI : Rws w lo hi A c rs) (hl : rs.length ≤ 1048576) (hn : ∀ r, r ∈ rs → r.xs.length ≤ 1048576) :
    Calls Try.prog 63 #[.slice A rs.length c, .func (.func 54) #[] #[]] w fun e w' => (∃ r : Int, e = .returned (.int .i64 r) ∧ decide (0 ≤ r) = !(rowsB rs)) ∧ w = w' := by
  have HI := Lib.hid hI; clear hI
  have HN := Lib.hid hn; clear hn
  go_enter Try.func63, Try.ntmps63
  go_wp2_with fail
  go_loop [8] (fun i => ∃ k : Nat, k ≤ rs.length ∧ i = .int .i64 k ∧ rowsB (rs.take k) = true) (fun i => rs.length - (intOf i).toNat)
  case atStart => exact ⟨0, by omega, rfl, rfl⟩
  case round =>
    obtain ⟨k, hk, rfl, hall⟩ := hrel
    have HL := Lib.hid hall; clear hall
    by_cases hlt : k < rs.length
    · obtain ⟨b, off, r, rfl, hr, hc, _, _, hI⟩ := HI.out.at_ hlt
      have hnr := HN.out r (List.mem_of_getElem? hr)
      have HR := Lib.hid hr; clear hr
      have HIr := Lib.hid hI; clear hI
      have hklt : (k : Int) < rs.length := by omega
      cases hin : vecB r.xs
      · have HH1 := Lib.hid (rows_false HR.out hin)
        have HV := Lib.hid hin; clear hin
        go_wp2_with fail
        refine (clo2_any _ _ _ _ r.xs _ HIr.out hnr).mono ?_; rintro e w' ⟨rfl, rfl⟩
        rw [HV.out]
        go_wp2_with fail
        go_ret
        refine ⟨⟨k, by simp, ?_⟩, rfl⟩
        rw [HH1.out]; simp
      · have HH1 := Lib.hid (rows_take_succ HR.out hin HL.out)
        have HV := Lib.hid hin; clear hin
        go_wp2_with fail
        refine (clo2_any _ _ _ _ r.xs _ HIr.out hnr).mono ?_; rintro e w' ⟨rfl, rfl⟩
        rw [HV.out]
        go_wp2_with fail
        go_round
        case rel => exact ⟨k + 1, by omega, by go_num, HH1.out⟩
        case measure => simp [intOf]; omega
    · have HH1 : Hid (rowsB rs = true) := by
        have := HL.out
        rwa [show k = rs.length by omega, List.take_length] at this
      go_wp2_with fail
      go_ret
      refine ⟨⟨-1, by simp, ?_⟩, rfl⟩
      rw [HH1.out]; rfl
theorem containsRows2_any (A : Option Addr) (c lo hi : Nat) (rs : List RowV) (w : World) (hI : Rws w lo hi A c rs) (hl : rs.length ≤ 1048576) (hn : ∀ r, r ∈ rs → r.xs.length ≤ 1048576) :
    Calls Try.prog 42 #[.slice A rs.length c, .func (.func 54) #[] #[]] w fun e w' => e = .returned (.bool (!(rowsB rs))) ∧ w = w' := by
  have HI := Lib.hid hI; clear hI
  have HN := Lib.hid hn; clear hn
  go_enter Try.func42, Try.ntmps42
  go_wp2_with fail
  refine (indexRows2_any _ _ _ _ rs _ HI.out hl HN.out).mono ?_; rintro e w' ⟨⟨r, rfl, hr⟩, rfl⟩
  have HR := Lib.hid hr; clear hr
  go_wp2_with fail
  go_ret
  refine ⟨?_, rfl⟩
  rw [← HR.out]; rfl
theorem cloneR_any (A : Option Addr) (c lo hi : Nat) (rs : List RowV) (w : World) (hI : Rws w lo hi A c rs) (hl : rs.length ≤ 1048576) (h1 : hi ≤ w.heap.size) :
    Calls Try.prog 45 #[.slice A rs.length c] w fun e w' => ∃ A' c', e = .returned (.slice A' rs.length c') ∧ w'.ownsRow w.heap.size 28 1 (.slice A' rs.length c') rs.length (rs.map rcell) ∧ Below w.heap.size w w' := by
  cases A with
  | none =>
    have h0 : rs.length = 0 := by
      rcases hI.1.2.2.2 with h | ⟨b, off, h, _⟩
      · exact h
      · cases h
    obtain rfl := List.eq_nil_of_length_eq_zero h0
    have hq := fun W => Lib.run_eql_slice_nil (P := Try.prog) W 23 28 none 0 c 0 0 Try.underlying23
    clear h0 hI
    go_enter Try.func45, Try.ntmps45
    go_wp2_with fail
    go_ret
    exact ⟨none, 0, by simp, ⟨rfl, .inl ⟨rfl, rfl⟩⟩, Below.refl _ _⟩
  | some a =>
    have hq := fun W => Lib.run_eql_slice_nil (P := Try.prog) W 23 28 (some a) rs.length c 0 0 Try.underlying23
    have HB := Lib.hid (show Below w.heap.size w (w.alloc (.cells #[] 28)) from (Below.refl _ _).alloc (Nat.le_refl _) _)
    have HIr := Lib.hid ((hI.1.below HB.out h1))
    have hs : w.heap.size ≤ (w.alloc (.cells #[] 28)).heap.size := by simp
    clear hI
    go_enter Try.func45, Try.ntmps45
    go_wp2_with (at_builtin; refine wpList_appC elS rfl (.tmp 5) (.tmp 6) rfl _ (ownsRow_empty w 28 1) (some a) rs.length c (rs.map rcell) rfl rfl HIr.out (rcell_one _) hs (by simp only [maxLen]; omega) (by omega) ?_; intro A2 c2 w2 hown hb2 _; have HO := Lib.hid hown; have HB2 := Lib.hid hb2; clear hown hb2)
    have hn : 0 + rs.length = rs.length := by omega
    have hO := HO.out
    rw [hn, List.nil_append] at hO
    have HO' := Lib.hid hO
    clear hO
    go_ret
    exact ⟨A2, c2, by simp, HO'.out, HB.out.trans HB2.out⟩
theorem own_neR {w : World} {base e size n g : Nat} {t : TypeId} {v : Value} {xs cs : List Value} (h : w.ownsRow base e size v n xs) (hb : Blk w g t cs) (hne : e ≠ t) : v.ownBlock ≠ some g := by
  rcases h.2 with ⟨rfl, _⟩ | ⟨g', cap, cur, rfl, _, hg, _⟩
  · simp [Value.ownBlock]
  · intro he
    simp only [Value.ownBlock, Option.some.injEq] at he
    subst he
    rw [Blk] at hb
    rw [hb] at hg
    simp only [Option.some.injEq, Obj.cells.injEq] at hg
    exact hne hg.2.1.symm
theorem grownR {w w' : World} {g : Nat} {t : TypeId} {cs : List Value} {row : Option Nat} (h : Blk w g t cs) (hg : w.grownBy w' row) (hne : row ≠ some g) : Blk w' g t cs :=
  (hg.block g h.lt (fun e => hne (by rw [← e]))).trans h
def sliceLen : Value → Nat
  | .slice _ n _ => n
  | _ => 0
/-- a room that came in, or a new one of zeros -/
def OldOr (w0 w : World) (e : TypeId) (r : RowV) : Prop :=
  Ints w 0 w0.heap.size r.a r.c r.xs ∨ ∃ b, r = ⟨some ⟨b, 0, none⟩, 3, [0, 0, 0]⟩ ∧ Blk w b e [.int .i64 0, .int .i64 0, .int .i64 0]
theorem OldOr.ints {w0 w : World} {e : TypeId} {r : RowV} (h : OldOr w0 w e r) (hs : w0.heap.size ≤ w.heap.size) : Ints w 0 w.heap.size r.a r.c r.xs := by
  rcases h with h | ⟨b, rfl, hP⟩
  · exact h.mono (Nat.le_refl _) hs
  · refine ⟨by simp, by simp [maxLen], .inr ⟨b, 0, rfl, Nat.zero_le _, hP.lt, fun j y hj => ?_⟩⟩
    have hc := hP.cell (i := j) (v := .int .i64 y) (by
      match j, hj with
      | 0, hj => simp at hj; subst hj; rfl
      | 1, hj => simp at hj; subst hj; rfl
      | 2, hj => simp at hj; subst hj; rfl)
    exact ⟨by simpa using hc, by simpa using hP.frozen j⟩
theorem pad_next {rs : List (List Int)} {us : List RowV} {m : Nat} {r : RowV} (h : us.map RowV.xs = rs ++ List.replicate (m - rs.length) [0, 0, 0]) (hr : r.xs = [0, 0, 0]) (hm : rs.length ≤ m) : (us ++ [r]).map RowV.xs = rs ++ List.replicate (m + 1 - rs.length) [0, 0, 0] := by
  rw [List.map_append, h, show m + 1 - rs.length = (m - rs.length) + 1 by omega, List.replicate_succ', List.append_assoc]; simp [hr]
theorem one_sliceR (a : Option Addr) (n c : Nat) : ∀ u ∈ [Value.slice a n c], u.oneCell' = true := by
  intro u hu; simp at hu; subst hu; rfl
/-- what a function leaves that returns an index or nothing -/
def RetO (w : World) (us : List (List Int)) (e : Ending) (w' : World) : Prop :=
  (us = [] ∧ ∃ A c, e = .returned (.slice A 0 c) ∧ c ≤ maxLen ∧ Below w.heap.size w w') ∨ ∃ T rs, us = tabL rs ∧ RetX w T rs e w'
theorem indexOf_any (A : Option Addr) (c lo hi : Nat) (rs : List RowV) (w : World) (hI : Rws w lo hi A c rs) (hl : rs.length ≤ 1048576) (hn : ∀ r, r ∈ rs → r.xs.length ≤ 1048576) (h1 : hi ≤ w.heap.size) :
    Calls Try.prog 17 #[.slice A rs.length c] w (RetO w (idxOf (rs.map RowV.xs))) := by
  have HI := Lib.hid hI; clear hI
  have HN := Lib.hid hn; clear hn
  by_cases h14 : 14 < rs.length
  · have HE : Hid (idxOf (rs.map RowV.xs) = []) := Lib.hid (by unfold idxOf; rw [if_neg]; simp; omega)
    go_enter Try.func17, Try.ntmps17
    go_wp2_with fail
    go_ret
    rw [HE.out]
    exact .inl ⟨rfl, none, 0, by simp, by simp [maxLen], Below.refl _ _⟩
  have h14' : ¬ ((14 : Int) < (rs.length : Int)) := by omega
  cases hv : rowsB rs
  · have HE : Hid (idxOf (rs.map RowV.xs) = []) := Lib.hid (by unfold idxOf; rw [if_neg]; rw [show (rs.map RowV.xs).all vecB = false from hv]; simp)
    have HV := Lib.hid hv; clear hv
    go_enter Try.func17, Try.ntmps17
    go_wp2_with fail
    refine (containsRows1_any _ _ _ _ rs _ HI.out hl HN.out).mono ?_; rintro e w' ⟨rfl, rfl⟩
    rw [HV.out]
    go_wp2_with fail
    go_ret
    rw [HE.out]
    exact .inl ⟨rfl, none, 0, by simp, by simp [maxLen], Below.refl _ _⟩
  have HE : Hid (idxOf (rs.map RowV.xs) = tabL (padL (rs.map RowV.xs))) := Lib.hid (by unfold idxOf; rw [if_pos]; rw [show (rs.map RowV.xs).all vecB = true from hv]; simp; omega)
  have HV := Lib.hid hv; clear hv
  go_enter Try.func17, Try.ntmps17
  go_wp2_with fail
  refine (containsRows1_any _ _ _ _ rs _ HI.out hl HN.out).mono ?_; rintro e w' ⟨rfl, rfl⟩
  rw [HV.out]
  go_wp2_with fail
  refine (cloneR_any _ _ _ _ rs _ HI.out hl h1).mono ?_; rintro e w1 ⟨A1, c1, rfl, hown, hb⟩
  have HO1 := Lib.hid hown
  have hs1 := hb.size
  have HB1 := Lib.hid hb
  replace HI := Lib.hid (HI.out.below hb h1)
  clear hown hb
  go_wp2_with fail
  go_loopw [3] (fun al wr => ∃ m A' c', ∃ us : List RowV, m ≤ 16 ∧ rs.length ≤ m ∧ al = .slice A' m c' ∧ wr.ownsRow w.heap.size 28 1 (.slice A' m c') m (us.map rcell) ∧ us.map RowV.xs = rs.map RowV.xs ++ List.replicate (m - rs.length) [0, 0, 0] ∧ (∀ r, r ∈ us → OldOr w wr 3 r) ∧ Below w.heap.size w wr) (fun al _ => 16 - sliceLen al)
  case atStart => exact ⟨rs.length, A1, c1, rs, by omega, by omega, rfl, HO1.out, by simp, fun r hr => .inl ((HI.out.2 r hr).mono (Nat.zero_le _) h1), HB1.out⟩
  case round =>
    obtain ⟨m, A', c', us, hm, hm2, rfl, hown, hus, hold, hb⟩ := hrel
    have HO := Lib.hid hown
    have HU := Lib.hid hus
    have HD := Lib.hid hold
    have HB := Lib.hid hb
    have hs := hb.size
    clear hown hus hold hb HO1 HB1
    have hul : us.length = m := by have := congrArg List.length HU.out; simp at this; omega
    have HUL := Lib.hid hul; clear hul
    by_cases hlt : m < 16
    · have hlti : (m : Int) < 16 := by omega
      go_wp2_with fail
      refine (zeros_any _).mono ?_; rintro e w2 ⟨rfl, hw2⟩
      have hb2 : Below wr.heap.size wr w2 := by rw [hw2]; exact (Below.refl _ _).alloc (Nat.le_refl _) _
      have hP2 : Blk w2 wr.heap.size 3 [.int .i64 0, .int .i64 0, .int .i64 0] := by rw [hw2]; exact Blk.new wr _ _
      have HO2 := Lib.hid (ownsRow_below HO.out hb2)
      have HP2 := Lib.hid hP2
      have HB2 := Lib.hid hb2
      have hs2 := hb2.size
      have hw2s : w.heap.size ≤ w2.heap.size := by omega
      clear hw2 hP2 hb2
      go_wp2_with (at_builtin; refine wpList_app1 elS rfl (.tmp 16) (.tmp 18) rfl w2 _ HO2.out [.slice (some ⟨wr.heap.size, 0, none⟩) 3 3] rfl rfl ⟨rfl, rfl, rfl, rfl⟩ rfl (one_sliceR _ _ _) hw2s (by simp only [maxLen]; omega) (by omega) ?_; intro q d w3 hown3 hb3 hg3 _ _; have HO3 := Lib.hid hown3; have HB3 := Lib.hid hb3; have HG3 := Lib.hid hg3; clear hown3 hb3 hg3)
      refine ⟨⟨m + 1, some ⟨q, 0, none⟩, d, us ++ [⟨some ⟨wr.heap.size, 0, none⟩, 3, [0, 0, 0]⟩], by omega, by omega, rfl, by rw [List.map_append]; exact HO3.out, by have h := pad_next (rs := rs.map RowV.xs) (m := m) (r := ⟨some ⟨wr.heap.size, 0, none⟩, 3, [0, 0, 0]⟩) (by rw [List.length_map]; exact HU.out) rfl (by rw [List.length_map]; exact hm2); rwa [List.length_map] at h, fun r hr => ?_, HB.out.trans ((HB2.out.mono hs).trans HB3.out)⟩, by simp [sliceLen]; omega⟩
      have up : ∀ r, OldOr w w2 3 r → OldOr w w3 3 r := fun r h => by
        rcases h with h | ⟨b, he, hP⟩
        · exact .inl (h.below HB3.out (Nat.le_refl _))
        · exact .inr ⟨b, he, grownR hP HG3.out (own_neR HO2.out hP (by decide))⟩
      rcases List.mem_append.1 hr with h | h
      · refine up r ?_
        rcases HD.out r h with h | ⟨b, he, hP⟩
        · exact .inl (h.below HB2.out hs)
        · exact .inr ⟨b, he, hP.step HB2.out⟩
      · simp only [List.mem_singleton] at h
        subst h
        exact up _ (.inr ⟨wr.heap.size, rfl, HP2.out⟩)
    · obtain rfl : m = 16 := by omega
      have hR : Rws wr 0 wr.heap.size A' c' us := by
        obtain ⟨A9, c9, he, hR⟩ := Rws.of_own (lo := 0) HO.out HUL.out.symm (fun r hr => (HD.out r hr).ints hs) (Nat.zero_le _)
        simp only [Value.slice.injEq] at he
        obtain ⟨rfl, -, rfl⟩ := he
        exact hR
      have hva : ∀ r, r ∈ us → vecB r.xs = true := fun r hr => by
        have h2 : r.xs ∈ us.map RowV.xs := List.mem_map.2 ⟨r, hr, rfl⟩
        rw [HU.out] at h2
        rcases List.mem_append.1 h2 with h | h
        · obtain ⟨x, hx, he⟩ := List.mem_map.1 h
          rw [← he]; exact rows_all HV.out x hx
        · rw [(List.mem_replicate.1 h).2]; rfl
      have HR := Lib.hid hR
      have HVA := Lib.hid hva
      have HPD : Hid (us.map RowV.xs = padL (rs.map RowV.xs)) := Lib.hid (by rw [HU.out, padL, List.length_map])
      clear hR hva
      go_wp2_with fail
      refine (tableOf_any A' c' us wr HR.out HUL.out HVA.out).mono ?_; rintro e w3 ⟨rfl, hT, ⟨us3, he3, ht3⟩, hb3⟩
      have HF : Hid (RetO w (idxOf (rs.map RowV.xs)) (.returned (.slice (some ⟨wr.heap.size, 0, none⟩) 32 32)) w3) := Lib.hid (.inr ⟨wr.heap.size, padL (rs.map RowV.xs), HE.out, rfl, hs, ⟨us3, by rw [he3, HPD.out], ht3⟩, HB.out.trans (hb3.mono hs)⟩)
      clear hT he3 ht3 hb3
      go_wp2_with fail
      go_ret
      exact HF.out
end Go.Proofs.Ytpjipofkpikipaa
