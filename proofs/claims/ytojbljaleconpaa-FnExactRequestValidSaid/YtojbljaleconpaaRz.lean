/- Helpers of the exact statement on requests: szRequest, toRequest, eqRequest. No condition but on sizes. -/
import Derived.Test.YtojbljaleconpaaTe
namespace Go.Proofs.Ytojbljaleconpaa
open Go.RowKit
theorem szRequest_any (kind i num : Int) (gr : Bool) (A : Option Addr) (n c : Nat) (left : Int) (w : World) (hl : 0 ≤ left ∧ left ≤ 1048576) (hn : n ≤ maxLen) :
    Calls Try.prog 35 #[.agg #[.int .i64 kind, .int .i64 i, .slice A n c, .bool gr, .int .i64 num], .int .i64 left] w fun e w' => e = .returned (.int .i64 (szv left n)) ∧ Below w.heap.size w w' := by
  have HBA : Hid (Below w.heap.size w (w.alloc (.cells #[.int .i64 kind, .int .i64 i, .slice A n c, .bool gr, .int .i64 num] 51))) := Lib.hid ((Below.refl _ _).alloc (Nat.le_refl _) _)
  obtain ⟨u, hu⟩ : ∃ u, szv left n = u := ⟨_, rfl⟩
  have HU := Lib.hid hu
  have hub := szv_bd (n := n) hl
  rw [hu] at hub
  have h1 := szTask_any i A n c left (w.alloc (.cells #[.int .i64 kind, .int .i64 i, .slice A n c, .bool gr, .int .i64 num] 51)) hl hn
  rw [hu] at h1
  have H1 := Lib.hid h1; clear h1 hu
  by_cases h : u < 0
  · have hm : u = -1 := by omega
    go_enter Try.func35, Try.ntmps35
    go_wp2_with fail
    refine H1.out.mono ?_; rintro e w' ⟨rfl, hb⟩
    have HBB := Lib.hid (HBA.out.trans (hb.mono HBA.out.size)); clear hb
    go_wp2_with fail
    go_ret
    exact ⟨by simp [HU.out, hm], HBB.out⟩
  · go_enter Try.func35, Try.ntmps35
    go_wp2_with fail
    refine H1.out.mono ?_; rintro e w' ⟨rfl, hb⟩
    have HBB := Lib.hid (HBA.out.trans (hb.mono HBA.out.size)); clear hb
    go_wp2_with fail
    go_ret
    exact ⟨by simp [HU.out], HBB.out⟩
/-- a request in new memory -/
def RetQ (w : World) (kind i : Int) (zs : List Int) (gr : Bool) (num : Int) (e : Ending) (w' : World) : Prop :=
  ∃ A c, e = .returned (.agg #[.int .i64 kind, .int .i64 i, .slice A zs.length c, .bool gr, .int .i64 num]) ∧ Ints w' w.heap.size w'.heap.size A c zs ∧ Below w.heap.size w w'
set_option maxHeartbeats 1000000 in
theorem toRequest_any (kind i num : Int) (gr : Bool) (A : Option Addr) (c hi : Nat) (ys : List Int) (w : World) (hA : IntsR w hi A ys) (hl : ys.length ≤ 1048576) (h1 : hi ≤ w.heap.size) :
    Calls Try.prog 36 #[.agg #[.int .i64 kind, .int .i64 i, .slice A ys.length c, .bool gr, .int .i64 num]] w (RetQ w kind i ys gr num) := by
  have HA := Lib.hid hA; clear hA
  obtain ⟨n, hn⟩ : ∃ n, ys.length = n := ⟨_, rfl⟩
  have HN := Lib.hid hn
  rw [hn] at hl ⊢; clear hn
  go_enter Try.func36, Try.ntmps36
  go_wp2_with fail
  obtain ⟨w1, hw1⟩ : ∃ W, W = ((w.alloc (.cells #[.int .i64 kind, .int .i64 i, .slice A n c, .bool gr, .int .i64 num] 51)).alloc (.cells #[.int .i64 0, .int .i64 0, .slice none 0 0, .bool false, .int .i64 0] 46)).alloc (.cells #[.int .i64 kind, .int .i64 0, .slice none 0 0, .bool false, .int .i64 0] 46) := ⟨_, rfl⟩
  rw [← hw1]
  have hb : Below w.heap.size w w1 := by rw [hw1]; exact (((Below.refl _ _).alloc (Nat.le_refl _) _).alloc (by simp) _).alloc (by simp; omega) _
  have HX : Hid (Blk w1 w.heap.size 51 [.int .i64 kind, .int .i64 i, .slice A n c, .bool gr, .int .i64 num]) := Lib.hid (by
    rw [hw1]
    exact ((Blk.new w 51 [.int .i64 kind, .int .i64 i, .slice A n c, .bool gr, .int .i64 num]).alloc _).alloc _)
  have HP : Hid (Blk w1 (w.heap.size + 1) 46 [.int .i64 0, .int .i64 0, .slice none 0 0, .bool false, .int .i64 0]) := Lib.hid (by
    rw [hw1]
    have := (Blk.new (w.alloc (.cells #[.int .i64 kind, .int .i64 i, .slice A n c, .bool gr, .int .i64 num] 51)) 46 [.int .i64 0, .int .i64 0, .slice none 0 0, .bool false, .int .i64 0]).alloc (.cells #[.int .i64 kind, .int .i64 0, .slice none 0 0, .bool false, .int .i64 0] 46)
    simpa using this)
  have HQ : Hid (Blk w1 (w.heap.size + 2) 46 [.int .i64 kind, .int .i64 0, .slice none 0 0, .bool false, .int .i64 0]) := Lib.hid (by
    rw [hw1]
    have := Blk.new ((w.alloc (.cells #[.int .i64 kind, .int .i64 i, .slice A n c, .bool gr, .int .i64 num] 51)).alloc (.cells #[.int .i64 0, .int .i64 0, .slice none 0 0, .bool false, .int .i64 0] 46)) 46 [.int .i64 kind, .int .i64 0, .slice none 0 0, .bool false, .int .i64 0]
    simp only [size_alloc] at this
    exact this)
  obtain ⟨ha1, hb1⟩ := le_le (show w1.heap.size = w.heap.size + 3 by rw [hw1]; simp)
  have HB := Lib.hid hb
  have hbq := hb; clear hb
  first | replace HA := Lib.hid (IntsR.below HA.out hbq (by omega)) | replace HA := Lib.hid (IntsR.below HA.out (Only.below hbq (by omega) (by omega)) (by omega))
  clear hw1 hbq
  have h2 := toTask_any i A c hi ys w1 HA.out (by rw [HN.out]; exact hl) (by omega)
  rw [HN.out] at h2
  refine h2.mono ?_; rintro e w2 ⟨A2, c2, rfl, hI, hb⟩
  rw [HN.out]
  have HI := Lib.hid hI; clear hI h2
  first | replace HP := Lib.hid (Blk.only HP.out hb (by omega)) | replace HP := Lib.hid (Blk.below HP.out hb (by omega))
  first | replace HQ := Lib.hid (Blk.only HQ.out hb (by omega)) | replace HQ := Lib.hid (Blk.below HQ.out hb (by omega))
  first | replace HX := Lib.hid (Blk.only HX.out hb (by omega)) | replace HX := Lib.hid (Blk.below HX.out hb (by omega))
  first | replace HB := Lib.hid (Below.trans HB.out (Below.mono hb (by omega))) | replace HB := Lib.hid (Below.trans HB.out (Only.below hb (by omega) (by omega)))
  have hs2 := hb.size
  clear hb
  have hx3 := HX.out.cell (i := 3) rfl
  have hx4 := HX.out.cell (i := 4) rfl
  have hq0 := HQ.out.cell (i := 0) rfl
  have hq1 := HQ.out.cell (i := 1) rfl
  have hq2 := HQ.out.cell (i := 2) rfl
  have hq3 := HQ.out.cell (i := 3) rfl
  have hq4 := HQ.out.cell (i := 4) rfl
  have hqf1 := HQ.out.frozen 1
  have hqf2 := HQ.out.frozen 2
  have hqf3 := HQ.out.frozen 3
  have hqf4 := HQ.out.frozen 4
  have hp0 := HP.out.cell (i := 0) rfl
  have hp1 := HP.out.cell (i := 1) rfl
  have hp2 := HP.out.cell (i := 2) rfl
  have hp3 := HP.out.cell (i := 3) rfl
  have hp4 := HP.out.cell (i := 4) rfl
  have hpf0 := HP.out.frozen 0
  have hpf1 := HP.out.frozen 1
  have hpf2 := HP.out.frozen 2
  have hpf3 := HP.out.frozen 3
  have hpf4 := HP.out.frozen 4
  go_wp2_with fail
  obtain ⟨wf, hwf⟩ : ∃ W, W = ((((((((w2.setCell ⟨w.heap.size + 2, 1, none⟩ (.int .i64 i)).setCell ⟨w.heap.size + 2, 2, none⟩ (.slice A2 n c2)).setCell ⟨w.heap.size + 2, 3, none⟩ (.bool gr)).setCell ⟨w.heap.size + 2, 4, none⟩ (.int .i64 num)).setCell ⟨w.heap.size + 1, 0, none⟩ (.int .i64 kind)).setCell ⟨w.heap.size + 1, 1, none⟩ (.int .i64 i)).setCell ⟨w.heap.size + 1, 2, none⟩ (.slice A2 n c2)).setCell ⟨w.heap.size + 1, 3, none⟩ (.bool gr)).setCell ⟨w.heap.size + 1, 4, none⟩ (.int .i64 num) := ⟨_, rfl⟩
  rw [← hwf]
  have hPf : Blk wf (w.heap.size + 1) 46 [.int .i64 kind, .int .i64 i, .slice A2 n c2, .bool gr, .int .i64 num] := by
    rw [hwf]
    exact ((((((((HP.out.far (by simp) _).far (by simp) _).far (by simp) _).far (by simp) _).set_ 0 (.int .i64 kind)).set_ 1 (.int .i64 i)).set_ 2 (.slice A2 n c2)).set_ 3 (.bool gr)).set_ 4 (.int .i64 num)
  have hO : Only (w.heap.size + 1) (w.heap.size + 3) w2 wf := by
    rw [hwf]
    exact (((((((((Only.refl _ _ _).setCell (p := ⟨w.heap.size + 2, 1, none⟩) (by simp) (by simp) _).setCell (p := ⟨w.heap.size + 2, 2, none⟩) (by simp) (by simp) _).setCell (p := ⟨w.heap.size + 2, 3, none⟩) (by simp) (by simp) _).setCell (p := ⟨w.heap.size + 2, 4, none⟩) (by simp) (by simp) _).setCell (p := ⟨w.heap.size + 1, 0, none⟩) (by simp) (by simp) _).setCell (p := ⟨w.heap.size + 1, 1, none⟩) (by simp) (by simp) _).setCell (p := ⟨w.heap.size + 1, 2, none⟩) (by simp) (by simp) _).setCell (p := ⟨w.heap.size + 1, 3, none⟩) (by simp) (by simp) _).setCell (p := ⟨w.heap.size + 1, 4, none⟩) (by simp) (by simp) _
  have hsf := hO.size
  first | replace HI := Lib.hid (Ints.only HI.out hO (by omega) (by omega)) | replace HI := Lib.hid (Ints.below HI.out hO (by omega))
  first | replace HB := Lib.hid (Below.trans HB.out (Below.mono hO (by omega))) | replace HB := Lib.hid (Below.trans HB.out (Only.below hO (by omega) (by omega)))
  have hf0 := hPf.cell (i := 0) rfl
  have hf1 := hPf.cell (i := 1) rfl
  have hf2 := hPf.cell (i := 2) rfl
  have hf3 := hPf.cell (i := 3) rfl
  have hf4 := hPf.cell (i := 4) rfl
  refine bodyPost_ret (v := .agg #[.int .i64 kind, .int .i64 i, .slice A2 n c2, .bool gr, .int .i64 num]) (by simp [results, Try.results36, go_sem, hf0, hf1, hf2, hf3, hf4]) rfl ?_
  exact ⟨A2, c2, by rw [HN.out], HI.out.mono (by omega) (by omega), HB.out⟩
theorem eqRequest_eq (kind i num : Int) (gr : Bool) (A B : Option Addr) (c d lo hi lo' hi' : Nat) (ys : List Int) (w : World) (hA : Ints w lo hi A c ys) (hB : Ints w lo' hi' B d ys) (hl : ys.length ≤ 2097152) (h1 : hi ≤ w.heap.size) (h2 : hi' ≤ w.heap.size) :
    Calls Try.prog 37 #[.agg #[.int .i64 kind, .int .i64 i, .slice A ys.length c, .bool gr, .int .i64 num], .agg #[.int .i64 kind, .int .i64 i, .slice B ys.length d, .bool gr, .int .i64 num]] w fun e w' => e = .returned (.bool true) ∧ Below w.heap.size w w' := by
  have HA := Lib.hid hA; clear hA
  have HB := Lib.hid hB; clear hB
  obtain ⟨w1, hw1⟩ : ∃ W, W = (w.alloc (.cells #[.int .i64 kind, .int .i64 i, .slice A ys.length c, .bool gr, .int .i64 num] 46)).alloc (.cells #[.int .i64 kind, .int .i64 i, .slice B ys.length d, .bool gr, .int .i64 num] 46) := ⟨_, rfl⟩
  have HW1 := Lib.hid hw1
  have hb1 : Below w.heap.size w w1 := by rw [hw1]; exact ((Below.refl _ _).alloc (Nat.le_refl _) _).alloc (by simp) _
  have hs1 := hb1.size
  have hs1' : w.heap.size + 2 ≤ w1.heap.size := by rw [hw1]; simp
  have HBA := Lib.hid hb1
  have HKA := Lib.hid (HA.out.below hb1 h1)
  have HKB := Lib.hid (HB.out.below hb1 h2)
  have HX : Hid (Blk w1 w.heap.size 46 [.int .i64 kind, .int .i64 i, .slice A ys.length c, .bool gr, .int .i64 num]) := Lib.hid (by
    rw [hw1]; exact (Blk.new w _ [.int .i64 kind, .int .i64 i, .slice A ys.length c, .bool gr, .int .i64 num]).alloc _)
  have HY : Hid (Blk w1 (w.heap.size + 1) 46 [.int .i64 kind, .int .i64 i, .slice B ys.length d, .bool gr, .int .i64 num]) := Lib.hid (by
    rw [hw1]
    have := Blk.new (w.alloc (.cells #[.int .i64 kind, .int .i64 i, .slice A ys.length c, .bool gr, .int .i64 num] 46)) 46 [.int .i64 kind, .int .i64 i, .slice B ys.length d, .bool gr, .int .i64 num]
    simpa using this)
  clear hw1 hb1
  go_enter Try.func37, Try.ntmps37
  go_wp2_with fail
  rw [← HW1.out]
  refine (eqTask_eq i A B c d _ _ _ _ ys w1 HKA.out HKB.out hl (by omega) (by omega)).mono ?_; rintro e w2 ⟨rfl, hb⟩
  first | replace HX := Lib.hid (Blk.only HX.out hb (by omega)) | replace HX := Lib.hid (Blk.below HX.out hb (by omega))
  first | replace HY := Lib.hid (Blk.only HY.out hb (by omega)) | replace HY := Lib.hid (Blk.below HY.out hb (by omega))
  first | replace HBA := Lib.hid (Below.trans HBA.out (Below.mono hb (by omega))) | replace HBA := Lib.hid (Below.trans HBA.out (Only.below hb (by omega) (by omega)))
  clear hb
  have hx3 := HX.out.cell (i := 3) rfl
  have hx4 := HX.out.cell (i := 4) rfl
  have hy3 := HY.out.cell (i := 3) rfl
  have hy4 := HY.out.cell (i := 4) rfl
  go_wp2_with fail
  go_ret
  exact ⟨by simp, HBA.out⟩
end Go.Proofs.Ytojbljaleconpaa
