/- Conflicts of two tasks and the bound by sums. No condition but on sizes. -/
import Derived.Test.YtlkhfmpkbjemhaaLo
namespace Go.Proofs.Ytlkhfmpkbjemhaa
open Go.RowKit
theorem good_bd {n : List Int} (h : GoodN n) : ∀ x, x ∈ n → -1000000000 ≤ x ∧ x ≤ 1000000000 := fun x hx => by have := h.2 x hx; omega
theorem clash_any (i j : Int) (R A B : Option Addr) (r c d : Nat) (lo hi lo' hi' lo2 hi2 : Nat) (room a b : List Int) (w : World) (hR : Ints w lo2 hi2 R r room) (hA : Ints w lo hi A c a) (hB : Ints w lo' hi' B d b)
    (hr : room.length = 3) (ha : GoodN a) (hb : GoodN b) (h0 : hi2 ≤ w.heap.size) (h1 : hi ≤ w.heap.size) (h2 : hi' ≤ w.heap.size) :
    Calls Try.prog 40 #[.slice R room.length r, .agg #[.int .i64 i, .slice A a.length c], .agg #[.int .i64 j, .slice B b.length d]] w fun e w' => e = .returned (.bool (clashB room a b)) ∧ Below w.heap.size w w' := by
  have HR := Lib.hid hR; clear hR
  have HA := Lib.hid hA; clear hA
  have HC := Lib.hid hB; clear hB
  have HGa := Lib.hid ha; clear ha
  have HGb := Lib.hid hb; clear hb
  have Hr := Lib.hid hr; clear hr
  go_enter Try.func40, Try.ntmps40
  go_wp2_with fail
  obtain ⟨w1, hw1⟩ : ∃ W, W = (w.alloc (.cells #[.int .i64 i, .slice A a.length c] 31)).alloc (.cells #[.int .i64 j, .slice B b.length d] 31) := ⟨_, rfl⟩
  rw [← hw1]
  have hb : Below w.heap.size w w1 := by rw [hw1]; exact ((Below.refl _ _).alloc (Nat.le_refl _) _).alloc (by simp) _
  have HB := Lib.hid hb
  have hs1 := hb.size
  first | replace HR := Lib.hid (Ints.only HR.out hb (by omega) (by omega)) | replace HR := Lib.hid (Ints.below HR.out hb (by omega))
  first | replace HA := Lib.hid (Ints.only HA.out hb (by omega) (by omega)) | replace HA := Lib.hid (Ints.below HA.out hb (by omega))
  first | replace HC := Lib.hid (Ints.only HC.out hb (by omega) (by omega)) | replace HC := Lib.hid (Ints.below HC.out hb (by omega))
  clear hb hw1
  refine (plus_any A B c d _ _ _ _ a b w1 HA.out HC.out HGa.out.1 HGb.out.1 (by omega) (by omega) (good_bd HGa.out) (good_bd HGb.out)).mono ?_; rintro e w2 ⟨A2, c2, rfl, hI, hb⟩
  have HI := Lib.hid hI; clear hI
  have hs2 := hb.size
  first | replace HR := Lib.hid (Ints.only HR.out hb (by omega) (by omega)) | replace HR := Lib.hid (Ints.below HR.out hb (by omega))
  first | replace HB := Lib.hid (Below.trans HB.out (Below.mono hb (by omega))) | replace HB := Lib.hid (Below.trans HB.out (Only.below hb (by omega) (by omega)))
  clear hb
  have hl3 : (addL a b 1).length = 3 := addL_len HGa.out.1 HGb.out.1
  have h3 := fits_any A2 R c2 r _ _ _ _ (addL a b 1) room w2 HI.out HR.out hl3 Hr.out
  rw [hl3] at h3
  have H3 := Lib.hid h3
  clear hl3 h3
  go_wp2_with fail
  refine H3.out.mono ?_; rintro e w' ⟨rfl, rfl⟩
  go_wp2_with fail
  go_ret
  exact ⟨by simp [clashB], HB.out⟩
theorem clashS_any (i j : Int) (R A B : Option Addr) (r c d : Nat) (lo hi lo' hi' lo2 hi2 : Nat) (room a b : List Int) (w : World) (hR : Ints w lo2 hi2 R r room) (hA : Ints w lo hi A c a) (hB : Ints w lo' hi' B d b)
    (hr : room.length = 3) (ha : GoodN a) (hb : GoodN b) (h0 : hi2 ≤ w.heap.size) (h1 : hi ≤ w.heap.size) (h2 : hi' ≤ w.heap.size) :
    Calls Try.prog 66 #[.slice R room.length r, .agg #[.int .i64 i, .slice A a.length c], .agg #[.int .i64 j, .slice B b.length d]] w fun e w' => e = .returned (.bool (clashB room a b)) ∧ Below w.heap.size w w' := by
  have HR := Lib.hid hR; clear hR
  have HA := Lib.hid hA; clear hA
  have HC := Lib.hid hB; clear hB
  have HGa := Lib.hid ha; clear ha
  have HGb := Lib.hid hb; clear hb
  have Hr := Lib.hid hr; clear hr
  go_enter Try.func66, Try.ntmps66
  go_wp2_with fail
  obtain ⟨w1, hw1⟩ : ∃ W, W = (w.alloc (.cells #[.int .i64 i, .slice A a.length c] 31)).alloc (.cells #[.int .i64 j, .slice B b.length d] 31) := ⟨_, rfl⟩
  rw [← hw1]
  have hb : Below w.heap.size w w1 := by rw [hw1]; exact ((Below.refl _ _).alloc (Nat.le_refl _) _).alloc (by simp) _
  have HB := Lib.hid hb
  have hs1 := hb.size
  first | replace HR := Lib.hid (Ints.only HR.out hb (by omega) (by omega)) | replace HR := Lib.hid (Ints.below HR.out hb (by omega))
  first | replace HA := Lib.hid (Ints.only HA.out hb (by omega) (by omega)) | replace HA := Lib.hid (Ints.below HA.out hb (by omega))
  first | replace HC := Lib.hid (Ints.only HC.out hb (by omega) (by omega)) | replace HC := Lib.hid (Ints.below HC.out hb (by omega))
  clear hb hw1
  refine (l1Add_any A B c d _ _ _ _ a b 1 w1 HA.out HC.out HGa.out.1 HGb.out.1 (by omega) (by omega) (good_bd HGa.out) (good_bd HGb.out) (by omega)).mono ?_; rintro e w2 ⟨A2, c2, rfl, hI, hb⟩
  have HI := Lib.hid hI; clear hI
  have hs2 := hb.size
  first | replace HR := Lib.hid (Ints.only HR.out hb (by omega) (by omega)) | replace HR := Lib.hid (Ints.below HR.out hb (by omega))
  first | replace HB := Lib.hid (Below.trans HB.out (Below.mono hb (by omega))) | replace HB := Lib.hid (Below.trans HB.out (Only.below hb (by omega) (by omega)))
  clear hb
  have hl3 : (addL a b 1).length = 3 := addL_len HGa.out.1 HGb.out.1
  have h3 := l1Fits_any A2 R c2 r _ _ _ _ (addL a b 1) room w2 HI.out HR.out hl3 Hr.out
  rw [hl3] at h3
  have H3 := Lib.hid h3
  clear hl3 h3
  go_wp2_with fail
  refine H3.out.mono ?_; rintro e w3 ⟨rfl, hd⟩
  replace HB := Lib.hid (HB.out.trans ((drawn_below hd).mono (by omega)))
  clear hd
  go_wp2_with fail
  go_ret
  exact ⟨by simp [clashB], HB.out⟩
def tsum (room : List Int) (ps : List (Int × List Int)) : Int := if tasksB room ps then (loadL (ps.map Prod.snd)).sum else -1
theorem tsum_yes {room : List Int} {ts : List TaskV} (h : tasksB room (ts.map pv) = true) : tsum room (ts.map pv) = (loadL (needs ts)).sum := by rw [tsum, if_pos h, needs_pv]
theorem load_small' {ts : List TaskV} (hg : ∀ t, t ∈ ts → GoodN t.need) (hl : ts.length ≤ 1000) : ∀ x, x ∈ loadL (needs ts) → -1000000 ≤ x ∧ x ≤ 1000000 := by
  intro x hx
  have := load_small hg hl (Nat.le_refl _) x (by rwa [List.take_of_length_le (Nat.le_refl _)])
  omega
theorem tasksSum_any (A : Option Addr) (c lo hi : Nat) (ys : List Int) (B : Option Addr) (d lo' hi' : Nat) (ts : List TaskV) (w : World) (hI : Ints w lo hi A c ys) (hl : ys.length ≤ 1048576) (hT : Tasks w lo' hi' B d ts) (hm : ts.length ≤ 1048576)
    (hn : ∀ t, t ∈ ts → t.need.length ≤ 1048576) (hw : ∀ t, t ∈ ts → (Lit.int .i64 t.id).wf = true) (h1 : hi ≤ w.heap.size) (h2 : hi' ≤ w.heap.size) :
    Calls Try.prog 27 #[.slice A ys.length c, .slice B ts.length d] w fun e w' => e = .returned (.int .i64 (tsum ys (ts.map pv))) ∧ Below w.heap.size w w' := by
  have HI := Lib.hid hI; clear hI
  have HT := Lib.hid hT; clear hT
  have HN := Lib.hid hn; clear hn
  have HW := Lib.hid hw; clear hw
  go_enter Try.func27, Try.ntmps27
  go_wp2_with fail
  refine (tasksValid_any A c lo hi ys B d lo' hi' ts w HI.out hl HT.out hm HN.out HW.out h1 h2).mono ?_; rintro e w1 ⟨rfl, hb⟩
  have hs1 := hb.size
  first | replace HT := Lib.hid (Tasks.only HT.out hb (by omega) (by omega)) | replace HT := Lib.hid (Tasks.below HT.out hb (by omega))
  have HB := Lib.hid hb; clear hb
  cases hr : tasksB ys (ts.map pv)
  · have HR := Lib.hid hr; clear hr
    go_wp2_with fail
    go_ret
    exact ⟨by simp [tsum, HR.out], HB.out⟩
  · have HR := Lib.hid hr; clear hr
    have h14 := tasks_len14 HR.out
    go_wp2_with fail
    refine (loadOf_any B d lo' hi' ts w1 HT.out (by omega) (tasks_good HR.out) (by omega)).mono ?_; rintro e w2 ⟨A2, c2, rfl, hI2, hb⟩
    have HI2 := Lib.hid hI2; clear hI2
    first | replace HB := Lib.hid (Below.trans HB.out (Below.mono hb (by omega))) | replace HB := Lib.hid (Below.trans HB.out (Only.below hb (by omega) (by omega)))
    clear hb
    have h3 := total_any A2 c2 _ _ (loadL (needs ts)) w2 HI2.out (by rw [loadL_len]; omega) (load_small' (tasks_good HR.out) (by omega))
    rw [loadL_len, ← tsum_yes HR.out] at h3
    have H3 := Lib.hid h3; clear h3
    go_wp2_with fail
    refine H3.out.mono ?_; rintro e w' ⟨rfl, rfl⟩
    go_wp2_with fail
    go_ret
    exact ⟨by simp, HB.out⟩
theorem tasksSumS_any (A : Option Addr) (c lo hi : Nat) (ys : List Int) (B : Option Addr) (d lo' hi' : Nat) (ts : List TaskV) (w : World) (hI : Ints w lo hi A c ys) (hl : ys.length ≤ 1048576) (hT : Tasks w lo' hi' B d ts) (hm : ts.length ≤ 1048576)
    (hn : ∀ t, t ∈ ts → t.need.length ≤ 1048576) (h1 : hi ≤ w.heap.size) (h2 : hi' ≤ w.heap.size) :
    Calls Try.prog 26 #[.slice A ys.length c, .slice B ts.length d] w fun e w' => e = .returned (.int .i64 (tsum ys (ts.map pv))) ∧ Below w.heap.size w w' := by
  have HI := Lib.hid hI; clear hI
  have HT := Lib.hid hT; clear hT
  have HN := Lib.hid hn; clear hn
  go_enter Try.func26, Try.ntmps26
  go_wp2_with fail
  refine (tasksValidS_any A c lo hi ys B d lo' hi' ts w HI.out hl HT.out hm HN.out h1 h2).mono ?_; rintro e w1 ⟨rfl, hb⟩
  have hs1 := hb.size
  first | replace HT := Lib.hid (Tasks.only HT.out hb (by omega) (by omega)) | replace HT := Lib.hid (Tasks.below HT.out hb (by omega))
  have HB := Lib.hid hb; clear hb
  cases hr : tasksB ys (ts.map pv)
  · have HR := Lib.hid hr; clear hr
    go_wp2_with fail
    go_ret
    exact ⟨by simp [tsum, HR.out], HB.out⟩
  · have HR := Lib.hid hr; clear hr
    have h14 := tasks_len14 HR.out
    go_wp2_with fail
    refine (l2Load_any B d lo' hi' ts w1 HT.out (by omega) (tasks_good HR.out) (by omega)).mono ?_; rintro e w2 ⟨A2, c2, rfl, hI2, hb⟩
    have HI2 := Lib.hid hI2; clear hI2
    first | replace HB := Lib.hid (Below.trans HB.out (Below.mono hb (by omega))) | replace HB := Lib.hid (Below.trans HB.out (Only.below hb (by omega) (by omega)))
    clear hb
    have h3 := l4Sum_any A2 c2 _ _ (loadL (needs ts)) w2 HI2.out (by rw [loadL_len]; omega) (load_small' (tasks_good HR.out) (by omega))
    rw [loadL_len, ← tsum_yes HR.out] at h3
    have H3 := Lib.hid h3; clear h3
    go_wp2_with fail
    refine H3.out.mono ?_; rintro e w' ⟨rfl, rfl⟩
    go_wp2_with fail
    go_ret
    exact ⟨by simp, HB.out⟩
theorem l5Sum_any (A : Option Addr) (c lo hi : Nat) (ys : List Int) (B : Option Addr) (d lo' hi' : Nat) (ts : List TaskV) (w : World) (hI : Ints w lo hi A c ys) (hT : Tasks w lo' hi' B d ts)
    (hr : tasksB ys (ts.map pv) = true) (h1 : hi ≤ w.heap.size) (h2 : hi' ≤ w.heap.size) :
    Calls Try.prog 46 #[.slice A ys.length c, .slice B ts.length d] w fun e w' => e = .returned (.int .i64 (boundL (loadL (needs ts)) ys)) ∧ Below w.heap.size w w' := by
  have HI := Lib.hid hI; clear hI
  have HT := Lib.hid hT; clear hT
  have HR := Lib.hid hr; clear hr
  have h14 := tasks_len14 HR.out
  go_enter Try.func46, Try.ntmps46
  go_wp2_with fail
  refine (l2Load_any B d lo' hi' ts w HT.out (by omega) (tasks_good HR.out) (by omega)).mono ?_; rintro e w2 ⟨A2, c2, rfl, hI2, hb⟩
  have HI2 := Lib.hid hI2; clear hI2
  first | replace HI := Lib.hid (Ints.only HI.out hb (by omega) (by omega)) | replace HI := Lib.hid (Ints.below HI.out hb (by omega))
  have HB := Lib.hid hb; clear hb
  have hyl : ys.length = 3 := vec_len (room_vec (tasks_room HR.out)).1
  have hyr : ∀ z, z ∈ ys → 1 ≤ z ∧ z ≤ 20 := fun z hz => ⟨(room_vec (tasks_room HR.out)).2 z hz, by obtain ⟨i, hi⟩ := List.getElem?_of_mem hz; exact (vec_at (room_vec (tasks_room HR.out)).1 hi).2⟩
  have HY := Lib.hid hyl; clear hyl
  have HYR := Lib.hid hyr; clear hyr
  have HLS := Lib.hid (fun x hx => load_small (tasks_good HR.out) (by omega) (Nat.le_refl _) x (by rwa [List.take_of_length_le (Nat.le_refl _)]) : ∀ x, x ∈ loadL (needs ts) → 0 ≤ x ∧ x ≤ 1000000)
  go_wp2_with fail
  go_loopw [6, 7] (fun v i wr => ∃ k n : Nat, ∃ z : Int, k ≤ 3 ∧ i = .int .i64 k ∧ v = .int .i64 z ∧ z = ((ceilL (loadL (needs ts)) ys).take k).foldl max 0 ∧ (0 ≤ z ∧ z ≤ 100000000) ∧ wr = w2.drewN n) (fun _ i _ => 3 - (intOf i).toNat)
  case atStart => exact ⟨0, 0, 0, by omega, rfl, rfl, by simp, by omega, rfl⟩
  case round =>
    obtain ⟨k, n, z, hk, rfl, rfl, hz, hzb, rfl⟩ := hrel
    have HZ := Lib.hid hz; clear hz
    by_cases hlt : k < 3
    · obtain ⟨p, off, x, rfl, hx, hc, _, _, _⟩ := HI2.out.at_ (k := k) (by rw [loadL_len]; omega)
      obtain ⟨p', off', y, rfl, hy, hc', _, _, _⟩ := HI.out.at_ (k := k) (by rw [HY.out]; omega)
      have hxb := HLS.out x (List.mem_of_getElem? hx)
      have hyb := HYR.out y (List.mem_of_getElem? hy)
      have hs1 : IntKind.i64.wrap (x + y) = x + y := wrap_small (by omega)
      have hs2 : IntKind.i64.wrap (x + y - 1) = x + y - 1 := wrap_small (by omega)
      have hy0 : (y == 0) = false := beq_eq_false_iff_ne.2 (by omega)
      have hq := ceil_tdiv (n := x) (r := y) (by omega) (by omega)
      have hqb := ceil_bd (n := x) (r := y) (by omega) (by omega)
      have HC := Lib.hid (ceil_some hx hy)
      have hk3 : (k : Int) < 3 := by omega
      have hky : k < ys.length := by rw [HY.out]; exact hlt
      have hky' : (k : Int) < ys.length := by omega
      clear hx hy
      have hy1 : ¬ y = 0 := by omega
      have hq1 : IntKind.i64.wrap (ceilI x y) = ceilI x y := wrap_small (by omega)
      have HM := Lib.hid (max_snoc (take_succ_some HC.out))
      obtain ⟨q, hqe⟩ : ∃ q, ceilI x y = q := ⟨_, rfl⟩
      rw [hqe] at hq hqb hq1
      rw [hqe] at HM
      clear hqe
      go_wp2_with fail
      go_quiet (fail)
      go_wp2_with fail
      refine ⟨⟨k + 1, _, _, by omega, by go_num, rfl, ?_, ?_, rfl⟩, by simp [intOf]; omega⟩
      · rw [HM.out, ← HZ.out]; split <;> omega
      · split <;> omega
    · have he : (ceilL (loadL (needs ts)) ys).take k = ceilL (loadL (needs ts)) ys := List.take_of_length_le (by simp [ceilL, loadL_len, HY.out]; omega)
      have HE : Hid (boundL (loadL (needs ts)) ys = z) := Lib.hid (by rw [HZ.out, he]; rfl)
      clear he
      go_wp2_with fail
      go_ret
      exact ⟨by simp [HE.out], HB.out.trans ((drawn_below ⟨n, rfl⟩).mono HB.out.size)⟩
theorem boundS_yes {room : List Int} {ts : List TaskV} (h : tasksB room (ts.map pv) = true) : boundS room (ts.map pv) = boundL (loadL (needs ts)) room := by rw [boundS, if_pos h, needs_pv]
theorem boundS_no {room : List Int} {ts : List TaskV} (h : tasksB room (ts.map pv) = false) : boundS room (ts.map pv) = -1 := by rw [boundS, if_neg (by simp [h])]
theorem boundSumS_any (A : Option Addr) (c lo hi : Nat) (ys : List Int) (B : Option Addr) (d lo' hi' : Nat) (ts : List TaskV) (w : World) (hI : Ints w lo hi A c ys) (hl : ys.length ≤ 1048576) (hT : Tasks w lo' hi' B d ts) (hm : ts.length ≤ 1048576)
    (hn : ∀ t, t ∈ ts → t.need.length ≤ 1048576) (h1 : hi ≤ w.heap.size) (h2 : hi' ≤ w.heap.size) :
    Calls Try.prog 20 #[.slice A ys.length c, .slice B ts.length d] w fun e w' => e = .returned (.int .i64 (boundS ys (ts.map pv))) ∧ Below w.heap.size w w' := by
  have HI := Lib.hid hI; clear hI
  have HT := Lib.hid hT; clear hT
  have HN := Lib.hid hn; clear hn
  go_enter Try.func20, Try.ntmps20
  go_wp2_with fail
  refine (tasksValidS_any A c lo hi ys B d lo' hi' ts w HI.out hl HT.out hm HN.out h1 h2).mono ?_; rintro e w1 ⟨rfl, hb⟩
  have hs1 := hb.size
  first | replace HT := Lib.hid (Tasks.only HT.out hb (by omega) (by omega)) | replace HT := Lib.hid (Tasks.below HT.out hb (by omega))
  first | replace HI := Lib.hid (Ints.only HI.out hb (by omega) (by omega)) | replace HI := Lib.hid (Ints.below HI.out hb (by omega))
  have HB := Lib.hid hb; clear hb
  cases hr : tasksB ys (ts.map pv)
  · have HR := Lib.hid hr; clear hr
    go_wp2_with fail
    go_ret
    exact ⟨by simp [boundS_no HR.out], HB.out⟩
  · have HR := Lib.hid hr; clear hr
    go_wp2_with fail
    refine (l5Sum_any A c lo hi ys B d lo' hi' ts w1 HI.out HT.out HR.out (by omega) (by omega)).mono ?_; rintro e w2 ⟨rfl, hb⟩
    first | replace HB := Lib.hid (Below.trans HB.out (Below.mono hb (by omega))) | replace HB := Lib.hid (Below.trans HB.out (Only.below hb (by omega) (by omega)))
    clear hb
    go_wp2_with fail
    go_ret
    exact ⟨by simp [boundS_yes HR.out], HB.out⟩
theorem bound1_any (k : Nat) (x y : Int) (R : Option Addr) (r lo hi g : Nat) (ys : List Int) (w : World) (hR : Ints w lo hi R r ys) (hG : w.cell? ⟨g, 0, none⟩ = some (.slice R ys.length r)) (hky : ys[k]? = some y) (hx : 0 ≤ x ∧ x ≤ 1000000) (hyb : 1 ≤ y ∧ y ≤ 20) :
    Calls Try.prog 45 #[.int .i64 k, .int .i64 x, .pointer (some ⟨g, 0, none⟩)] w fun e w' => e = .returned (.int .i64 (ceilI x y)) ∧ ∃ n, w' = w.drewN n := by
  have hkl : k < ys.length := (List.getElem?_eq_some_iff.1 hky).1
  obtain ⟨p, off, y', rfl, hy, hc, _, _, _⟩ := hR.at_ hkl
  obtain rfl : y' = y := by rw [hky] at hy; exact (Option.some.inj hy).symm
  clear hR hky hy
  have hs1 : IntKind.i64.wrap (x + y') = x + y' := wrap_small (by omega)
  have hs2 : IntKind.i64.wrap (x + y' - 1) = x + y' - 1 := wrap_small (by omega)
  have hy0 : (y' == 0) = false := beq_eq_false_iff_ne.2 (by omega)
  have hy1 : ¬ y' = 0 := by omega
  have hq := ceil_tdiv (n := x) (r := y') (by omega) (by omega)
  have hqb := ceil_bd (n := x) (r := y') (by omega) (by omega)
  have hq1 : IntKind.i64.wrap (ceilI x y') = ceilI x y' := wrap_small (by omega)
  obtain ⟨q, hqe⟩ : ∃ q, ceilI x y' = q := ⟨_, rfl⟩
  rw [hqe] at hq hqb hq1 ⊢
  have hkl' : (k : Int) < ys.length := by omega
  clear hqe
  go_enter Try.func45, Try.ntmps45
  go_wp2_with fail
  go_quiet (fail)
  go_wp2_with fail
  go_ret
  exact ⟨by simp, _, rfl⟩
theorem greatest_any (A : Option Addr) (c lo hi : Nat) (zs : List Int) (R : Option Addr) (r lo' hi' g : Nat) (ys : List Int) (w : World) (hI : Ints w lo hi A c zs) (hR : Ints w lo' hi' R r ys) (hG : w.cell? ⟨g, 0, none⟩ = some (.slice R ys.length r))
    (hz : zs.length = 3) (hy : ys.length = 3) (hzb : ∀ z, z ∈ zs → 0 ≤ z ∧ z ≤ 1000000) (hyb : ∀ z, z ∈ ys → 1 ≤ z ∧ z ≤ 20) :
    Calls Try.prog 43 #[.slice A zs.length c, .func (Fn.func 45) #[] #[.pointer (some ⟨g, 0, none⟩)]] w fun e w' => e = .returned (.int .i64 (boundL zs ys)) ∧ Below w.heap.size w w' := by
  have HI := Lib.hid hI; clear hI
  have HR := Lib.hid hR; clear hR
  have HG := Lib.hid hG; clear hG
  have HZl := Lib.hid hz; clear hz
  have HYl := Lib.hid hy; clear hy
  have HZb := Lib.hid hzb; clear hzb
  have HYb := Lib.hid hyb; clear hyb
  go_enter Try.func43, Try.ntmps43
  go_wp2_with fail
  go_loopw [5, 10] (fun v i wr => ∃ k n : Nat, ∃ z : Int, k ≤ 3 ∧ i = .int .i64 k ∧ v = .int .i64 z ∧ z = ((ceilL zs ys).take k).foldl max 0 ∧ (0 ≤ z ∧ z ≤ 100000000) ∧ wr = w.drewN n) (fun _ i _ => 3 - (intOf i).toNat)
  case atStart => exact ⟨0, 0, 0, by omega, rfl, rfl, by simp, by omega, rfl⟩
  case round =>
    obtain ⟨k, n, z, hk, rfl, rfl, hz, hzb, rfl⟩ := hrel
    have HZ := Lib.hid hz; clear hz
    by_cases hlt : k < 3
    · have hkz : k < zs.length := by rw [HZl.out]; exact hlt
      have hky : k < ys.length := by rw [HYl.out]; exact hlt
      obtain ⟨p, off, x, rfl, hx, hc, _, _, _⟩ := HI.out.at_ hkz
      obtain ⟨p', off', y, rfl, hy, hc', _, _, _⟩ := HR.out.at_ hky
      have hxb := HZb.out x (List.mem_of_getElem? hx)
      have hyb := HYb.out y (List.mem_of_getElem? hy)
      have HC := Lib.hid (ceil_some hx hy)
      have hkz' : (k : Int) < zs.length := by omega
      have HYk := Lib.hid hy
      clear hx hy
      have h2 := bound1_any k x y _ r _ _ g ys (w.drewN n) (HR.out.drewN n) HG.out HYk.out hxb hyb
      obtain ⟨q, hqe⟩ : ∃ q, ceilI x y = q := ⟨_, rfl⟩
      rw [hqe] at h2 HC
      have hqb := ceil_bd (n := x) (r := y) (by omega) (by omega)
      rw [hqe] at hqb
      have HM := Lib.hid (max_snoc (take_succ_some HC.out))
      have H2 := Lib.hid h2
      clear h2 hqe
      go_wp2_with fail
      refine H2.out.mono ?_; rintro e w' ⟨rfl, m, rfl⟩
      go_wp2_with fail
      refine ⟨⟨k + 1, n + m, _, by omega, by go_num, rfl, ?_, ?_, by simp⟩, by simp [intOf]; omega⟩
      · rw [HM.out, ← HZ.out]; split <;> omega
      · split <;> omega
    · have he : (ceilL zs ys).take k = ceilL zs ys := List.take_of_length_le (by simp [ceilL, HZl.out, HYl.out]; omega)
      have HE : Hid (boundL zs ys = z) := Lib.hid (by rw [HZ.out, he]; rfl)
      have hkz : ¬ ((k : Int) < zs.length) := by rw [HZl.out]; omega
      clear he
      go_wp2_with fail
      go_ret
      exact ⟨by simp [HE.out], drawn_below ⟨n, rfl⟩⟩
theorem boundSum_any (A : Option Addr) (c lo hi : Nat) (ys : List Int) (B : Option Addr) (d lo' hi' : Nat) (ts : List TaskV) (w : World) (hI : Ints w lo hi A c ys) (hl : ys.length ≤ 1048576) (hT : Tasks w lo' hi' B d ts) (hm : ts.length ≤ 1048576)
    (hn : ∀ t, t ∈ ts → t.need.length ≤ 1048576) (hw : ∀ t, t ∈ ts → (Lit.int .i64 t.id).wf = true) (h1 : hi ≤ w.heap.size) (h2 : hi' ≤ w.heap.size) :
    Calls Try.prog 19 #[.slice A ys.length c, .slice B ts.length d] w fun e w' => e = .returned (.int .i64 (boundS ys (ts.map pv))) ∧ Below w.heap.size w w' := by
  have HI := Lib.hid hI; clear hI
  have HT := Lib.hid hT; clear hT
  have HN := Lib.hid hn; clear hn
  have HW := Lib.hid hw; clear hw
  go_enter Try.func19, Try.ntmps19
  go_wp2_with fail
  obtain ⟨w0, hw0⟩ : ∃ W, W = w.alloc (.cells #[.slice A ys.length c] 23) := ⟨_, rfl⟩
  rw [← hw0]
  have hb : Below w.heap.size w w0 := by rw [hw0]; exact (Below.refl _ _).alloc (Nat.le_refl _) _
  have HC : Hid (Blk w0 w.heap.size 23 [.slice A ys.length c]) := Lib.hid (by rw [hw0]; exact Blk.new w _ _)
  obtain ⟨ha0, hb0⟩ := le_le (show w0.heap.size = w.heap.size + 1 by rw [hw0]; simp)
  first | replace HT := Lib.hid (Tasks.only HT.out hb (by omega) (by omega)) | replace HT := Lib.hid (Tasks.below HT.out hb (by omega))
  first | replace HI := Lib.hid (Ints.only HI.out hb (by omega) (by omega)) | replace HI := Lib.hid (Ints.below HI.out hb (by omega))
  have HB := Lib.hid hb; clear hb hw0
  have hc0 := HC.out.cell (i := 0) rfl
  refine (tasksValid_any A c lo hi ys B d lo' hi' ts w0 HI.out hl HT.out hm HN.out HW.out (by omega) (by omega)).mono ?_; rintro e w1 ⟨rfl, hb⟩
  have hs1 := hb.size
  first | replace HT := Lib.hid (Tasks.only HT.out hb (by omega) (by omega)) | replace HT := Lib.hid (Tasks.below HT.out hb (by omega))
  first | replace HI := Lib.hid (Ints.only HI.out hb (by omega) (by omega)) | replace HI := Lib.hid (Ints.below HI.out hb (by omega))
  first | replace HB := Lib.hid (Below.trans HB.out (Below.mono hb (by omega))) | replace HB := Lib.hid (Below.trans HB.out (Only.below hb (by omega) (by omega)))
  first | replace HC := Lib.hid (Blk.only HC.out hb (by omega)) | replace HC := Lib.hid (Blk.below HC.out hb (by omega))
  clear hb hc0
  have hc0 := HC.out.cell (i := 0) rfl
  cases hr : tasksB ys (ts.map pv)
  · have HR := Lib.hid hr; clear hr
    go_wp2_with fail
    go_ret
    exact ⟨by simp [boundS_no HR.out], HB.out⟩
  · have HR := Lib.hid hr; clear hr
    have h14 := tasks_len14 HR.out
    go_wp2_with fail
    refine (loadOf_any B d lo' hi' ts w1 HT.out (by omega) (tasks_good HR.out) (by omega)).mono ?_; rintro e w2 ⟨A2, c2, rfl, hI2, hb⟩
    have HI2 := Lib.hid hI2; clear hI2
    have hs2 := hb.size
    first | replace HB := Lib.hid (Below.trans HB.out (Below.mono hb (by omega))) | replace HB := Lib.hid (Below.trans HB.out (Only.below hb (by omega) (by omega)))
    first | replace HC := Lib.hid (Blk.only HC.out hb (by omega)) | replace HC := Lib.hid (Blk.below HC.out hb (by omega))
    first | replace HI := Lib.hid (Ints.only HI.out hb (by omega) (by omega)) | replace HI := Lib.hid (Ints.below HI.out hb (by omega))
    clear hb hc0
    have hc0 := HC.out.cell (i := 0) rfl
    have HC0 := Lib.hid hc0
    have hv := room_vec (tasks_room HR.out)
    have h3 := greatest_any A2 c2 _ _ (loadL (needs ts)) A c _ _ w.heap.size ys w2 HI2.out HI.out HC0.out (loadL_len _) (vec_len hv.1) (fun x hx => load_small (tasks_good HR.out) (by omega) (Nat.le_refl _) x (by rwa [List.take_of_length_le (Nat.le_refl _)])) (fun z hz => ⟨hv.2 z hz, by obtain ⟨i, hi⟩ := List.getElem?_of_mem hz; exact (vec_at hv.1 hi).2⟩)
    rw [loadL_len, ← boundS_yes HR.out] at h3
    have H3 := Lib.hid h3
    clear h3 hv
    go_wp2_with fail
    refine H3.out.mono ?_; rintro e w3 ⟨rfl, hb⟩
    first | replace HB := Lib.hid (Below.trans HB.out (Below.mono hb (by omega))) | replace HB := Lib.hid (Below.trans HB.out (Only.below hb (by omega) (by omega)))
    clear hb hc0
    go_wp2_with fail
    go_ret
    exact ⟨by simp, HB.out⟩
end Go.Proofs.Ytlkhfmpkbjemhaa
