/- Helpers of the exact statements on one task: szIntS, szTask, toTask, eqTask. No condition but on sizes. -/
import Derived.Test.YtojbljaleconpaaTy
import Derived.Test.YtojbljaleconpaaLw
namespace Go.Proofs.Ytojbljaleconpaa
open Go.RowKit
/-- what is left -/
def szv (left : Int) (n : Nat) : Int := if (n : Int) ≤ left then left - n else -1
theorem szv_lo {left : Int} {n : Nat} (h : szv left n < 0) : left < n ∨ left < 0 := by unfold szv at h; split at h <;> omega
theorem szv_hi {left : Int} {n : Nat} (h : ¬ szv left n < 0) : szv left n = left - n ∧ (n : Int) ≤ left := by unfold szv at h ⊢; split at h <;> simp_all
theorem szv_bd {left : Int} {n : Nat} (h : 0 ≤ left ∧ left ≤ 1048576) : -1 ≤ szv left n ∧ szv left n ≤ 1048576 := by unfold szv; split <;> omega
theorem szIntS_any (A : Option Addr) (n c : Nat) (left : Int) (w : World) (hl : 0 ≤ left ∧ left ≤ 1048576) (hn : n ≤ maxLen) :
    Calls Try.prog 80 #[.slice A n c, .int .i64 left] w fun e w' => e = .returned (.int .i64 (szv left n)) ∧ w = w' := by
  have hn' : n ≤ 9223372036854775807 := by simpa [maxLen] using hn
  have hwr : IntKind.i64.wrap (left - (n : Int)) = left - n := by rw [IntKind.wrap_i64]; omega
  clear hn
  by_cases h : (n : Int) ≤ left
  · have h2 : ¬ left - (n : Int) < 0 := by omega
    have HE : Hid (szv left n = left - n) := Lib.hid (by simp [szv, h])
    go_enter Try.func80, Try.ntmps80
    go_wp2_with fail
    go_ret
    exact ⟨by simp [HE.out], rfl⟩
  · have h2 : left - (n : Int) < 0 := by omega
    have HE : Hid (szv left n = -1) := Lib.hid (by simp [szv, h])
    go_enter Try.func80, Try.ntmps80
    go_wp2_with fail
    go_ret
    exact ⟨by simp [HE.out], rfl⟩
theorem szTask_any (i : Int) (A : Option Addr) (n c : Nat) (left : Int) (w : World) (hl : 0 ≤ left ∧ left ≤ 1048576) (hn : n ≤ maxLen) :
    Calls Try.prog 63 #[.agg #[.int .i64 i, .slice A n c], .int .i64 left] w fun e w' => e = .returned (.int .i64 (szv left n)) ∧ Below w.heap.size w w' := by
  have HBA : Hid (Below w.heap.size w (w.alloc (.cells #[.int .i64 i, .slice A n c] 49))) := Lib.hid ((Below.refl _ _).alloc (Nat.le_refl _) _)
  obtain ⟨u, hu⟩ : ∃ u, szv left n = u := ⟨_, rfl⟩
  have HU := Lib.hid hu
  have hub := szv_bd (n := n) hl
  rw [hu] at hub
  have h1 := szIntS_any A n c left (w.alloc (.cells #[.int .i64 i, .slice A n c] 49)) hl hn
  rw [hu] at h1
  have H1 := Lib.hid h1; clear h1 hu
  by_cases h : u < 0
  · have hm : u = -1 := by omega
    go_enter Try.func63, Try.ntmps63
    go_wp2_with fail
    refine H1.out.mono ?_; rintro e w' ⟨rfl, rfl⟩
    go_wp2_with fail
    go_ret
    exact ⟨by simp [HU.out, hm], HBA.out⟩
  · go_enter Try.func63, Try.ntmps63
    go_wp2_with fail
    refine H1.out.mono ?_; rintro e w' ⟨rfl, rfl⟩
    go_wp2_with fail
    go_ret
    exact ⟨by simp [HU.out], HBA.out⟩
/-- a task in new memory -/
def RetT (w : World) (i : Int) (zs : List Int) (e : Ending) (w' : World) : Prop :=
  ∃ A c, e = .returned (.agg #[.int .i64 i, .slice A zs.length c]) ∧ Ints w' w.heap.size w'.heap.size A c zs ∧ Below w.heap.size w w'
theorem toTask_any (i : Int) (A : Option Addr) (c hi : Nat) (ys : List Int) (w : World) (hA : IntsR w hi A ys) (hl : ys.length ≤ 1048576) (h1 : hi ≤ w.heap.size) :
    Calls Try.prog 64 #[.agg #[.int .i64 i, .slice A ys.length c]] w (RetT w i ys) := by
  have HA := Lib.hid hA; clear hA
  obtain ⟨n, hn⟩ : ∃ n, ys.length = n := ⟨_, rfl⟩
  have HN := Lib.hid hn
  rw [hn] at hl ⊢; clear hn
  go_enter Try.func64, Try.ntmps64
  go_wp2_with fail
  obtain ⟨w1, hw1⟩ : ∃ W, W = ((w.alloc (.cells #[.int .i64 i, .slice A n c] 49)).alloc (.cells #[.int .i64 0, .slice none 0 0] 44)).alloc (.cells #[.int .i64 i, .slice none 0 0] 44) := ⟨_, rfl⟩
  rw [← hw1]
  have hb : Below w.heap.size w w1 := by rw [hw1]; exact (((Below.refl _ _).alloc (Nat.le_refl _) _).alloc (by simp) _).alloc (by simp; omega) _
  have HP : Hid (Blk w1 (w.heap.size + 1) 44 [.int .i64 0, .slice none 0 0]) := Lib.hid (by
    rw [hw1]
    have := (Blk.new (w.alloc (.cells #[.int .i64 i, .slice A n c] 49)) 44 [.int .i64 0, .slice none 0 0]).alloc (.cells #[.int .i64 i, .slice none 0 0] 44)
    simpa using this)
  have HQ : Hid (Blk w1 (w.heap.size + 2) 44 [.int .i64 i, .slice none 0 0]) := Lib.hid (by
    rw [hw1]
    have := Blk.new ((w.alloc (.cells #[.int .i64 i, .slice A n c] 49)).alloc (.cells #[.int .i64 0, .slice none 0 0] 44)) 44 [.int .i64 i, .slice none 0 0]
    simp only [size_alloc] at this
    exact this)
  obtain ⟨ha1, hb1⟩ := le_le (show w1.heap.size = w.heap.size + 3 by rw [hw1]; simp)
  have HB := Lib.hid hb
  have hbq := hb; clear hb
  first | replace HA := Lib.hid (IntsR.below HA.out hbq (by omega)) | replace HA := Lib.hid (IntsR.below HA.out (Only.below hbq (by omega) (by omega)) (by omega))
  clear hw1 hbq
  have h2 := toIntS_any A c hi ys w1 HA.out (by rw [HN.out]; exact hl) (by omega)
  rw [HN.out] at h2
  refine h2.mono ?_; rintro e w2 ⟨A2, c2, rfl, hI, hb⟩
  rw [HN.out]
  have HI := Lib.hid hI; clear hI h2
  first | replace HP := Lib.hid (Blk.only HP.out hb (by omega)) | replace HP := Lib.hid (Blk.below HP.out hb (by omega))
  first | replace HQ := Lib.hid (Blk.only HQ.out hb (by omega)) | replace HQ := Lib.hid (Blk.below HQ.out hb (by omega))
  first | replace HB := Lib.hid (Below.trans HB.out (Below.mono hb (by omega))) | replace HB := Lib.hid (Below.trans HB.out (Only.below hb (by omega) (by omega)))
  have hs2 := hb.size
  clear hb
  have hq0 := HQ.out.cell (i := 0) rfl
  have hq1 := HQ.out.cell (i := 1) rfl
  have hqf := HQ.out.frozen 1
  have hp0 := HP.out.cell (i := 0) rfl
  have hp1 := HP.out.cell (i := 1) rfl
  have hpf0 := HP.out.frozen 0
  have hpf1 := HP.out.frozen 1
  go_wp2_with fail
  obtain ⟨wf, hwf⟩ : ∃ W, W = ((w2.setCell ⟨w.heap.size + 2, 1, none⟩ (.slice A2 n c2)).setCell ⟨w.heap.size + 1, 0, none⟩ (.int .i64 i)).setCell ⟨w.heap.size + 1, 1, none⟩ (.slice A2 n c2) := ⟨_, rfl⟩
  rw [← hwf]
  have hPf : Blk wf (w.heap.size + 1) 44 [.int .i64 i, .slice A2 n c2] := by rw [hwf]; exact ((HP.out.far (by simp) _).set_ 0 (.int .i64 i)).set_ 1 (.slice A2 n c2)
  have hO : Only (w.heap.size + 1) (w.heap.size + 3) w2 wf := by rw [hwf]; exact (((Only.refl _ _ _).setCell (p := ⟨w.heap.size + 2, 1, none⟩) (by simp) (by simp) _).setCell (p := ⟨w.heap.size + 1, 0, none⟩) (by simp) (by simp) _).setCell (p := ⟨w.heap.size + 1, 1, none⟩) (by simp) (by simp) _
  have hsf := hO.size
  first | replace HI := Lib.hid (Ints.only HI.out hO (by omega) (by omega)) | replace HI := Lib.hid (Ints.below HI.out hO (by omega))
  first | replace HB := Lib.hid (Below.trans HB.out (Below.mono hO (by omega))) | replace HB := Lib.hid (Below.trans HB.out (Only.below hO (by omega) (by omega)))
  have hf0 := hPf.cell (i := 0) rfl
  have hf1 := hPf.cell (i := 1) rfl
  refine bodyPost_ret (v := .agg #[.int .i64 i, .slice A2 n c2]) (by simp [results, Try.results64, go_sem, hf0, hf1]) rfl ?_
  exact ⟨A2, c2, by rw [HN.out], HI.out.mono (by omega) (by omega), HB.out⟩
theorem eqTask_eq (i : Int) (A B : Option Addr) (c d lo hi lo' hi' : Nat) (ys : List Int) (w : World) (hA : Ints w lo hi A c ys) (hB : Ints w lo' hi' B d ys) (hl : ys.length ≤ 2097152) (h1 : hi ≤ w.heap.size) (h2 : hi' ≤ w.heap.size) :
    Calls Try.prog 65 #[.agg #[.int .i64 i, .slice A ys.length c], .agg #[.int .i64 i, .slice B ys.length d]] w fun e w' => e = .returned (.bool true) ∧ Below w.heap.size w w' := by
  have HA := Lib.hid hA; clear hA
  have HB := Lib.hid hB; clear hB
  have HBA : Hid (Below w.heap.size w ((w.alloc (.cells #[.int .i64 i, .slice A ys.length c] 44)).alloc (.cells #[.int .i64 i, .slice B ys.length d] 44))) := Lib.hid (((Below.refl _ _).alloc (Nat.le_refl _) _).alloc (by simp) _)
  have HKA := Lib.hid (HA.out.below HBA.out h1)
  have HKB := Lib.hid (HB.out.below HBA.out h2)
  go_enter Try.func65, Try.ntmps65
  go_wp2_with fail
  refine (eqIntS_eq A B c d _ _ _ _ ys _ HKA.out HKB.out hl).mono ?_; rintro e w' ⟨rfl, n, rfl⟩
  go_wp2_with fail
  go_ret
  exact ⟨by simp, HBA.out.trans ((drawn_below ⟨n, rfl⟩).mono (by simp; omega))⟩
end Go.Proofs.Ytojbljaleconpaa
