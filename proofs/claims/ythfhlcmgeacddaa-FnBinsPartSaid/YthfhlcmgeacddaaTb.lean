/- Tasks and their order: contracts of total, l4Sum, compare, l4Before, TaskBefore. No condition but on sizes. -/
import Derived.Test.YthfhlcmgeacddaaPr
import Derived.Test.YthfhlcmgeacddaaVr
namespace Go.Proofs.Ythfhlcmgeacddaa
open Go.RowKit
theorem sum_bd {ys : List Int} {M : Int} (_hM : 0 ≤ M) (h : ∀ y, y ∈ ys → -M ≤ y ∧ y ≤ M) : -(M * ys.length) ≤ ys.sum ∧ ys.sum ≤ M * ys.length := by
  induction ys with
  | nil => simp
  | cons y r ih =>
    have h1 := h y (List.mem_cons_self ..)
    have h2 := ih (fun z hz => h z (List.mem_cons_of_mem _ hz))
    simp only [List.sum_cons, List.length_cons]
    rw [show M * ((r.length + 1 : Nat) : Int) = M * r.length + M by rw [Int.natCast_add, Int.mul_add]; simp]
    omega
theorem take_sum_snoc {ys : List Int} {k : Nat} {y : Int} (h : ys[k]? = some y) : (ys.take (k + 1)).sum = (ys.take k).sum + y := sum_snoc (take_succ_some h)
theorem total_any (A : Option Addr) (c lo hi : Nat) (ys : List Int) (w : World) (hI : Ints w lo hi A c ys) (hl : ys.length ≤ 1000000) (hy : ∀ y, y ∈ ys → -1000000 ≤ y ∧ y ≤ 1000000) :
    Calls Try.prog 71 #[.slice A ys.length c] w fun e w' => e = .returned (.int .i64 ys.sum) ∧ w = w' := by
  have HI := Lib.hid hI; clear hI
  have HY := Lib.hid hy; clear hy
  go_enter Try.func71, Try.ntmps71
  go_wp2_with fail
  go_loop [3, 8] (fun s i => ∃ k : Nat, ∃ z : Int, k ≤ ys.length ∧ i = .int .i64 k ∧ s = .int .i64 z ∧ z = (ys.take k).sum) (fun _ i => ys.length - (intOf i).toNat)
  case atStart => exact ⟨0, 0, by omega, rfl, rfl, by simp⟩
  case round =>
    obtain ⟨k, z, hk, rfl, rfl, hz⟩ := hrel
    have hb := sum_bd (M := 1000000) (by omega) (fun y hy => HY.out y (List.mem_of_mem_take (i := k) hy))
    have hln : ((ys.take k).length : Int) ≤ 1000000 := by rw [List.length_take]; omega
    have hz1 : -1000000000000 ≤ z ∧ z ≤ 1000000000000 := by rw [hz]; omega
    clear hb hln
    have HZ := Lib.hid hz; clear hz
    by_cases hlt : k < ys.length
    · obtain ⟨b, off, y, rfl, hy, hc, _, _, _⟩ := HI.out.at_ hlt
      have hyb := HY.out y (List.mem_of_getElem? hy)
      have HS := Lib.hid (take_sum_snoc hy); clear hy
      go_wp2
      go_round
      case rel => exact ⟨k + 1, _, by omega, by go_num, rfl, by rw [HS.out, HZ.out]⟩
      case measure => simp [intOf]; omega
    · have HE : Hid (ys.sum = z) := Lib.hid (by rw [HZ.out, List.take_of_length_le (by omega)])
      go_wp2
      go_ret
      exact ⟨by simp [HE.out], rfl⟩
theorem l4Sum_any (A : Option Addr) (c lo hi : Nat) (ys : List Int) (w : World) (hI : Ints w lo hi A c ys) (hl : ys.length ≤ 1000000) (hy : ∀ y, y ∈ ys → -1000000 ≤ y ∧ y ≤ 1000000) :
    Calls Try.prog 72 #[.slice A ys.length c] w fun e w' => e = .returned (.int .i64 ys.sum) ∧ w = w' := by
  have HI := Lib.hid hI; clear hI
  have HY := Lib.hid hy; clear hy
  go_enter Try.func72, Try.ntmps72
  go_wp2_with fail
  go_loop [3, 4] (fun s i => ∃ k : Nat, ∃ z : Int, k ≤ ys.length ∧ i = .int .i64 k ∧ s = .int .i64 z ∧ z = (ys.take k).sum) (fun _ i => ys.length - (intOf i).toNat)
  case atStart => exact ⟨0, 0, by omega, rfl, rfl, by simp⟩
  case round =>
    obtain ⟨k, z, hk, rfl, rfl, hz⟩ := hrel
    have hb := sum_bd (M := 1000000) (by omega) (fun y hy => HY.out y (List.mem_of_mem_take (i := k) hy))
    have hln : ((ys.take k).length : Int) ≤ 1000000 := by rw [List.length_take]; omega
    have hz1 : -1000000000000 ≤ z ∧ z ≤ 1000000000000 := by rw [hz]; omega
    clear hb hln
    have HZ := Lib.hid hz; clear hz
    by_cases hlt : k < ys.length
    · obtain ⟨b, off, y, rfl, hy, hc, _, _, _⟩ := HI.out.at_ hlt
      have hyb := HY.out y (List.mem_of_getElem? hy)
      have HS := Lib.hid (take_sum_snoc hy); clear hy
      go_wp2
      go_round
      case rel => exact ⟨k + 1, _, by omega, by go_num, rfl, by rw [HS.out, HZ.out]⟩
      case measure => simp [intOf]; omega
    · have HE : Hid (ys.sum = z) := Lib.hid (by rw [HZ.out, List.take_of_length_le (by omega)])
      go_wp2
      go_ret
      exact ⟨by simp [HE.out], rfl⟩
theorem sumOf_any (A : Option Addr) (c lo hi : Nat) (ys : List Int) (w : World) (hI : Ints w lo hi A c ys) (hl : ys.length ≤ 1000000) (hy : ∀ y, y ∈ ys → -1000000 ≤ y ∧ y ≤ 1000000) :
    Calls Try.prog 19 #[.slice A ys.length c] w fun e w' => e = .returned (.int .i64 ys.sum) ∧ w = w' := by
  have HI := Lib.hid hI; clear hI
  have HY := Lib.hid hy; clear hy
  go_enter Try.func19, Try.ntmps19
  go_wp2_with fail
  go_loop [3, 4] (fun s i => ∃ k : Nat, ∃ z : Int, k ≤ ys.length ∧ i = .int .i64 k ∧ s = .int .i64 z ∧ z = (ys.take k).sum) (fun _ i => ys.length - (intOf i).toNat)
  case atStart => exact ⟨0, 0, by omega, rfl, rfl, by simp⟩
  case round =>
    obtain ⟨k, z, hk, rfl, rfl, hz⟩ := hrel
    have hb := sum_bd (M := 1000000) (by omega) (fun y hy => HY.out y (List.mem_of_mem_take (i := k) hy))
    have hln : ((ys.take k).length : Int) ≤ 1000000 := by rw [List.length_take]; omega
    have hz1 : -1000000000000 ≤ z ∧ z ≤ 1000000000000 := by rw [hz]; omega
    clear hb hln
    have HZ := Lib.hid hz; clear hz
    by_cases hlt : k < ys.length
    · obtain ⟨b, off, y, rfl, hy, hc, _, _, _⟩ := HI.out.at_ hlt
      have hyb := HY.out y (List.mem_of_getElem? hy)
      have HS := Lib.hid (take_sum_snoc hy); clear hy
      go_wp2
      go_round
      case rel => exact ⟨k + 1, _, by omega, by go_num, rfl, by rw [HS.out, HZ.out]⟩
      case measure => simp [intOf]; omega
    · have HE : Hid (ys.sum = z) := Lib.hid (by rw [HZ.out, List.take_of_length_le (by omega)])
      go_wp2
      go_ret
      exact ⟨by simp [HE.out], rfl⟩
theorem idValid_any (n : Int) (w : World) : Calls Try.prog 45 #[.int .i64 n] w fun e w' => e = .returned (.bool (inB n 1 40)) ∧ w = w' := by
  go_enter Try.func45, Try.ntmps45
  go_wp2_with (go_at_call 67; refine (within_any _ _ _ _).mono ?_; rintro e w' ⟨rfl, rfl⟩)
  go_ret
  exact ⟨by simp, rfl⟩
theorem vec_sum {ys : List Int} (h : vecB ys = true) : ∀ y, y ∈ ys → -1000000 ≤ y ∧ y ≤ 1000000 := by
  intro y hy
  obtain ⟨k, hk⟩ := List.getElem?_of_mem hy
  have := vec_at h hk
  omega
theorem tcompare_any (i j : Int) (A B : Option Addr) (c d lo hi lo' hi' : Nat) (a b : List Int) (w : World) (hA : Ints w lo hi A c a) (hB : Ints w lo' hi' B d b) (ha : vecB a = true) (hb : vecB b = true) (h1 : hi ≤ w.heap.size) (h2 : hi' ≤ w.heap.size) :
    Calls Try.prog 47 #[.agg #[.int .i64 i, .slice A a.length c], .agg #[.int .i64 j, .slice B b.length d]] w fun e w' => e = .returned (.int .i64 (orI (cmpI b.sum a.sum) (cmpI i j))) ∧ Below w.heap.size w w' := by
  have HA := Lib.hid hA; clear hA
  have HB := Lib.hid hB; clear hB
  have HVa := Lib.hid (vec_sum ha)
  have HVb := Lib.hid (vec_sum hb)
  have hla : a.length ≤ 1000000 := by rw [vec_len ha]; omega
  have hlb : b.length ≤ 1000000 := by rw [vec_len hb]; omega
  clear ha hb
  have HBA : Hid (Below w.heap.size w ((w.alloc (.cells #[.int .i64 i, .slice A a.length c] 25)).alloc (.cells #[.int .i64 j, .slice B b.length d] 25))) := Lib.hid (((Below.refl _ _).alloc (Nat.le_refl _) _).alloc (by simp) _)
  have HKA := Lib.hid (HA.out.below HBA.out.drew h1)
  have HKB := Lib.hid (HB.out.below HBA.out.drew h2)
  go_enter Try.func47, Try.ntmps47
  go_wp2_with fail
  go_region_held3 (fun w' => w'.cell? ⟨w.heap.size, 0, none⟩ = some (.int .i64 i) ∧ w'.cell? ⟨w.heap.size, 1, none⟩ = some (.slice A a.length c) ∧ w'.cell? ⟨w.heap.size + 1, 0, none⟩ = some (.int .i64 j) ∧ w'.cell? ⟨w.heap.size + 1, 1, none⟩ = some (.slice B b.length d))
    (go_keep)
    (first
      | (go_at_call 71; first | ((with_reducible refine (total_any A c lo hi a _ HKA.out hla HVa.out).mono ?_); rintro e w' ⟨rfl, rfl⟩) | ((with_reducible refine (total_any B d lo' hi' b _ HKB.out hlb HVb.out).mono ?_); rintro e w' ⟨rfl, rfl⟩))
      | (go_at_call 70; refine (compare_any _ _ _).mono ?_; rintro e w' ⟨rfl, rfl⟩)
      | (go_at_call 69; refine (or_any _ _ (cmpI b.sum a.sum) (cmpI i j) _ (lit_cell _ _ _ _ (by simp) 0 _ rfl) (lit_cell _ _ _ _ (by simp) 1 _ rfl)).mono ?_; rintro e w' ⟨rfl, rfl⟩))
  go_wp2_with fail
  go_ret
  exact ⟨by simp, (HBA.out.alloc (by simp; omega) _).drew⟩
end Go.Proofs.Ythfhlcmgeacddaa
