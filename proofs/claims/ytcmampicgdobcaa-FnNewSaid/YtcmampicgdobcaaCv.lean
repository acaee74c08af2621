/- Clusters of closed units without tasks: sameCluster, bins, ClusterValid, ClusterCounts, DrawClusterNew. No condition but on sizes. -/
import Derived.Test.YtcmampicgdobcaaBn
import Derived.Test.YtcmampicgdobcaaCm
import Derived.Test.YtcmampicgdobcaaDx
import Derived.Test.YtcmampicgdobcaaLw
namespace Go.Proofs.Ytcmampicgdobcaa
open Go.RowKit
theorem binsB_empty {room : List Int} {n : Nat} (h : roomB room = true) (hn : n ≤ 14) : binsB room (List.replicate n []) = true := by
  have h3 := roomB_len h
  have hv := h
  simp only [roomB, Bool.and_eq_true] at hv
  obtain ⟨a, b, c, rfl, hb⟩ := vec_form hv.2
  have hf : fitsB (loadL (([] : List (Int × List Int)).map Prod.snd)) [a, b, c] = true := by
    have e : loadL (([] : List (Int × List Int)).map Prod.snd) = [0, 0, 0] := rfl
    rw [e]; simp [fitsB]; omega
  have ht : tasksB [a, b, c] [] = true := by simp [tasksB, h]
  simp only [binsB, List.length_replicate, Bool.and_eq_true, decide_eq_true_eq, List.all_eq_true]
  refine ⟨⟨hn, ?_⟩, fun x hx => ?_⟩
  · have : (List.replicate n ([] : List (Int × List Int))).flatten = [] := by simp
    rw [this]; exact ht
  · obtain rfl := (List.mem_replicate.1 hx).2
    exact hf
theorem sameTasks_nil (A B : Option Addr) (c d : Nat) (w : World) : Calls Try.prog 23 #[.slice A 0 c, .slice B 0 d] w fun e w' => e = .returned (.bool true) ∧ w = w' := by
  go_enter Try.func23, Try.ntmps23
  go_wp2_with fail
  refine wp_loop_rounds 1 ?_
  rw [rounds_succ]; go_wp2_with fail
  go_ret
  exact ⟨by simp, rfl⟩
set_option maxHeartbeats 1000000 in
theorem sameCluster_eq (A B A' B' : Option Addr) (c d c' d' n l1 h1 l2 h2 l3 h3 l4 h4 : Nat) (ys : List Int) (f : Nat → Bool) (w : World) (hA : Ints w l1 h1 A c ys) (hB : Units w l2 h2 B n f) (hA' : Ints w l3 h3 A' c' ys) (hB' : Units w l4 h4 B' n f) (hl : ys.length ≤ 2097152) (hn : n ≤ 1048576)
    (g1 : h1 ≤ w.heap.size) (g2 : h2 ≤ w.heap.size) (g3 : h3 ≤ w.heap.size) (g4 : h4 ≤ w.heap.size) :
    Calls Try.prog 8 #[.agg #[.slice A ys.length c, .slice B n d], .agg #[.slice A' ys.length c', .slice B' n d']] w fun e w' => e = .returned (.bool true) ∧ Below w.heap.size w w' := by
  obtain ⟨w1, hw1⟩ : ∃ W, W = (w.alloc (.cells #[.slice A ys.length c, .slice B n d] 28)).alloc (.cells #[.slice A' ys.length c', .slice B' n d'] 28) := ⟨_, rfl⟩
  have HW1 := Lib.hid hw1
  have hb1 : Below w.heap.size w w1 := by rw [hw1]; exact ((Below.refl _ _).alloc (Nat.le_refl _) _).alloc (by simp) _
  have hs1 := hb1.size
  have hs1' : w.heap.size + 2 ≤ w1.heap.size := by rw [hw1]; simp
  have HBA := Lib.hid hb1
  have HA := Lib.hid (hA.below hb1 g1)
  have HA' := Lib.hid (hA'.below hb1 g3)
  have HU := Lib.hid (hB.below hb1 g2)
  have HU' := Lib.hid (hB'.below hb1 g4)
  have HX : Hid (Blk w1 w.heap.size 28 [.slice A ys.length c, .slice B n d]) := Lib.hid (by rw [hw1]; exact (Blk.new w _ [.slice A ys.length c, .slice B n d]).alloc _)
  have HY : Hid (Blk w1 (w.heap.size + 1) 28 [.slice A' ys.length c', .slice B' n d']) := Lib.hid (by
    rw [hw1]
    have := Blk.new (w.alloc (.cells #[.slice A ys.length c, .slice B n d] 28)) 28 [.slice A' ys.length c', .slice B' n d']
    simpa using this)
  clear hw1 hb1 hA hB hA' hB'
  go_enter Try.func8, Try.ntmps8
  go_wp2_with fail
  rw [← HW1.out]
  refine (sameInts_eq A A' c c' _ _ _ _ ys w1 HA.out HA'.out hl).mono ?_; rintro e w2 ⟨rfl, hd⟩
  obtain ⟨n2, rfl⟩ := hd
  replace HBA : Hid (Below w.heap.size w (w1.drewN n2)) := Lib.hid (Below.drewN HBA.out n2)
  have hx1 : w1.cell? ⟨w.heap.size, 1, none⟩ = some (.slice B n d) := HX.out.cell (i := 1) rfl
  have hy1 : w1.cell? ⟨w.heap.size + 1, 1, none⟩ = some (.slice B' n d') := HY.out.cell (i := 1) rfl
  go_wp2_with fail
  go_loopw [5] (fun i wr => ∃ k m : Nat, k ≤ n ∧ i = .int .i64 k ∧ wr = w1.drewN m) (fun i _ => n - (intOf i).toNat)
  case atStart => exact ⟨0, _, by omega, rfl, rfl⟩
  case round =>
    obtain ⟨k, m, hk, rfl, rfl⟩ := hrel
    by_cases hlt : k < n
    · obtain ⟨b1, off1, A1, c1, rfl, _, hbh1, _, hc1, hc2⟩ := HU.out.at_ hlt
      obtain ⟨b2, off2, A2, c2, rfl, _, hbh2, _, hd1, hd2⟩ := HU'.out.at_ hlt
      have hklt : (k : Int) < n := by omega
      obtain ⟨v, hv⟩ : ∃ v, f k = v := ⟨_, rfl⟩
      rw [hv] at hc1 hd1
      clear hv
      cases v
      · go_wp2_with fail
        go_region_held3 (fun w' => w'.cell? ⟨w.heap.size, 1, none⟩ = some (.slice (some ⟨b1, off1, none⟩) n d) ∧ w'.cell? ⟨w.heap.size + 1, 1, none⟩ = some (.slice (some ⟨b2, off2, none⟩) n d') ∧ w'.cell? ⟨b1, off1 + k * 2, none⟩ = some (.bool false) ∧ w'.cell? ⟨b1, off1 + k * 2 + 1, none⟩ = some (.slice A1 0 c1) ∧ w'.cell? ⟨b2, off2 + k * 2, none⟩ = some (.bool false) ∧ w'.cell? ⟨b2, off2 + k * 2 + 1, none⟩ = some (.slice A2 0 c2))
          (exact ⟨hx1, hy1, hc1, hc2, hd1, hd2⟩)
          (first | (go_at_call 23; refine (sameTasks_nil A1 A2 c1 c2 _).mono ?_; rintro e w' ⟨rfl, rfl⟩))
        go_wp2_with fail
        exact ⟨⟨k + 1, _, by omega, by go_num, rfl⟩, by simp [intOf]; omega⟩
      · go_wp2_with fail
        go_region_held3 (fun w' => w'.cell? ⟨w.heap.size, 1, none⟩ = some (.slice (some ⟨b1, off1, none⟩) n d) ∧ w'.cell? ⟨w.heap.size + 1, 1, none⟩ = some (.slice (some ⟨b2, off2, none⟩) n d') ∧ w'.cell? ⟨b1, off1 + k * 2, none⟩ = some (.bool true) ∧ w'.cell? ⟨b1, off1 + k * 2 + 1, none⟩ = some (.slice A1 0 c1) ∧ w'.cell? ⟨b2, off2 + k * 2, none⟩ = some (.bool true) ∧ w'.cell? ⟨b2, off2 + k * 2 + 1, none⟩ = some (.slice A2 0 c2))
          (exact ⟨hx1, hy1, hc1, hc2, hd1, hd2⟩)
          (first | (go_at_call 23; refine (sameTasks_nil A1 A2 c1 c2 _).mono ?_; rintro e w' ⟨rfl, rfl⟩))
        go_wp2_with fail
        exact ⟨⟨k + 1, _, by omega, by go_num, rfl⟩, by simp [intOf]; omega⟩
    · have hbf := Below.drewN HBA.out m
      have HF : Hid (Below w.heap.size w (w1.drewN m)) := Lib.hid ⟨hbf.os, hbf.tape, hbf.output, hbf.size, hbf.block⟩
      clear hbf
      go_wp2_with fail
      go_ret
      exact ⟨by simp, HF.out⟩
/-- nodes without tasks -/
def bvs (us : List (Option Addr × Nat)) : List BinV := us.map fun u => ⟨u.1, u.2, []⟩
theorem elBs : Elem Try.prog 51 46 1 24 := Elem.mk' Try.underlying51 (z := .slice none 0 0) (by kernel_rfl) rfl (by omega)
theorem clv_any (A : Option Addr) (c : Nat) (w : World) : Calls Try.prog 27 #[.agg #[.bool false, .slice A 0 c]] w fun e w' => e = .returned (.bool false) ∧ Below w.heap.size w w' := by
  go_enter Try.func27, Try.ntmps27
  go_wp2_with fail
  go_ret
  exact ⟨by simp, (Below.refl _ _).alloc (Nat.le_refl _) _⟩
theorem indexUnits_any (A : Option Addr) (c n lo hi : Nat) (w : World) (hI : Units w lo hi A n (fun _ => false)) (hn : n ≤ 1048576) (h1 : hi ≤ w.heap.size) :
    Calls Try.prog 38 #[.slice A n c, .func (.func 27) #[] #[]] w fun e w' => e = .returned (.int .i64 (-1)) ∧ Below w.heap.size w w' := by
  have HI := Lib.hid hI; clear hI
  go_enter Try.func38, Try.ntmps38
  go_wp2_with fail
  go_loopw [8] (fun i wr => ∃ k : Nat, k ≤ n ∧ i = .int .i64 k ∧ Below w.heap.size w wr) (fun i _ => n - (intOf i).toNat)
  case atStart => exact ⟨0, by omega, rfl, Below.refl _ _⟩
  case round =>
    obtain ⟨k, hk, rfl, hb⟩ := hrel
    have HB := Lib.hid hb
    replace HI := Lib.hid (HI.out.below hb h1)
    have hs := hb.size
    clear hb
    by_cases hlt : k < n
    · obtain ⟨b1, off1, A1, c1, rfl, _, hbh1, _, hc1, hc2⟩ := HI.out.at_ hlt
      have hklt : (k : Int) < n := by omega
      go_wp2_with fail
      refine (clv_any A1 c1 wr).mono ?_; rintro e w2 ⟨rfl, hb⟩
      replace HB := Lib.hid (HB.out.trans (hb.mono hs))
      clear hb
      go_wp2_with fail
      go_roundw
      case rel => exact ⟨k + 1, by omega, by go_num, HB.out⟩
      case measure => simp [intOf]; omega
    · go_wp2_with fail
      go_ret
      exact ⟨by simp, HB.out⟩
theorem containsUnits_any (A : Option Addr) (c n lo hi : Nat) (w : World) (hI : Units w lo hi A n (fun _ => false)) (hn : n ≤ 1048576) (h1 : hi ≤ w.heap.size) :
    Calls Try.prog 26 #[.slice A n c, .func (.func 27) #[] #[]] w fun e w' => e = .returned (.bool false) ∧ Below w.heap.size w w' := by
  have HI := Lib.hid hI; clear hI
  go_enter Try.func26, Try.ntmps26
  go_wp2_with fail
  refine (indexUnits_any A c n _ _ w HI.out hn h1).mono ?_; rintro e w2 ⟨rfl, hb⟩
  have HB := Lib.hid hb; clear hb
  go_wp2_with fail
  go_ret
  exact ⟨by simp, HB.out⟩
end Go.Proofs.Ytcmampicgdobcaa
