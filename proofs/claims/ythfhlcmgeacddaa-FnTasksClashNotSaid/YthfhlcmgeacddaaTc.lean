/- TasksClash, both programs'. No condition but on sizes. -/
import Derived.Test.YthfhlcmgeacddaaBd
namespace Go.Proofs.Ythfhlcmgeacddaa
open Go.RowKit
theorem tasks_lit2 {w : World} {e : TypeId} {i j : Int} {A B : Option Addr} {a b : List Int} {c d : Nat} {w' : World}
    (hw : w' = w.alloc (.cells #[.int .i64 i, .slice A a.length c, .int .i64 j, .slice B b.length d] e)) (hA : Ints w' 0 w'.heap.size A c a) (hB : Ints w' 0 w'.heap.size B d b) :
    Tasks w' 0 w'.heap.size (some ⟨w.heap.size, 0, none⟩) 2 [⟨i, A, c, a⟩, ⟨j, B, d, b⟩] := by
  have h : w'.ownsRow 0 e 2 (.slice (some ⟨w.heap.size, 0, none⟩) 2 2) 2 (trow [⟨i, A, c, a⟩, ⟨j, B, d, b⟩]) := by
    rw [hw]
    exact ownsRow_base (World.ownsRow_lit w #[.int .i64 i, .slice A a.length c, .int .i64 j, .slice B b.length d] (e := e) (size := 2) 2 (Nat.le_refl _) (by simp [maxLen]) rfl) (Nat.zero_le _)
  obtain ⟨A9, c9, he, hT⟩ := Tasks.of_own (ts := [⟨i, A, c, a⟩, ⟨j, B, d, b⟩]) h (fun t ht => by
    simp only [List.mem_cons, List.mem_nil_iff, or_false] at ht
    rcases ht with rfl | rfl
    · exact hA
    · exact hB)
  simp only [Value.slice.injEq] at he
  obtain ⟨rfl, -, rfl⟩ := he
  exact hT
theorem tclash_no {room : List Int} {p q : Int × List Int} (h : tasksB room [p, q] = false) : tclashB room p q = false := by rw [tclashB, h]; rfl
theorem tclash_yes {room : List Int} {p q : Int × List Int} (h : tasksB room [p, q] = true) : tclashB room p q = clashB room p.2 q.2 := by rw [tclashB, h]; rfl
theorem tasksClash_any (i j : Int) (R A B : Option Addr) (r c d : Nat) (lo hi lo' hi' lo2 hi2 : Nat) (room a b : List Int) (w : World) (hR : Ints w lo2 hi2 R r room) (hA : Ints w lo hi A c a) (hB : Ints w lo' hi' B d b)
    (hr : room.length ≤ 1048576) (ha : a.length ≤ 1048576) (hb : b.length ≤ 1048576) (hwi : (Lit.int .i64 i).wf = true) (hwj : (Lit.int .i64 j).wf = true) (h0 : hi2 ≤ w.heap.size) (h1 : hi ≤ w.heap.size) (h2 : hi' ≤ w.heap.size) :
    Calls Try.prog 29 #[.slice R room.length r, .agg #[.int .i64 i, .slice A a.length c], .agg #[.int .i64 j, .slice B b.length d]] w fun e w' => e = .returned (.bool (tclashB room (i, a) (j, b))) ∧ Below w.heap.size w w' := by
  have HR := Lib.hid hR; clear hR
  have HA := Lib.hid hA; clear hA
  have HC := Lib.hid hB; clear hB
  obtain ⟨na, hna⟩ : ∃ n, a.length = n := ⟨_, rfl⟩
  obtain ⟨nb, hnb⟩ : ∃ n, b.length = n := ⟨_, rfl⟩
  have HNa := Lib.hid hna
  have HNb := Lib.hid hnb
  rw [hna] at ha ⊢
  rw [hnb] at hb ⊢
  clear hna hnb
  go_enter Try.func29, Try.ntmps29
  go_wp2_with fail
  obtain ⟨w1, hw1⟩ : ∃ W, W = (w.alloc (.cells #[.int .i64 i, .slice A na c] 25)).alloc (.cells #[.int .i64 j, .slice B nb d] 25) := ⟨_, rfl⟩
  obtain ⟨ha1, hb1⟩ := le_le (show w1.heap.size = w.heap.size + 2 by rw [hw1]; simp)
  have hs12 : w.heap.size + 1 + 1 = w1.heap.size := by omega
  rw [← hw1]
  obtain ⟨w2, hw2⟩ : ∃ W, W = w1.alloc (.cells #[.int .i64 i, .slice A na c, .int .i64 j, .slice B nb d] 25) := ⟨_, rfl⟩
  rw [← hw2]
  obtain ⟨hc1, hc2⟩ := le_le (show w2.heap.size = w1.heap.size + 1 by rw [hw2]; simp)
  have hbb : Below w.heap.size w w1 := by rw [hw1]; exact ((Below.refl _ _).alloc (Nat.le_refl _) _).alloc (by simp) _
  have hbc : Below w1.heap.size w1 w2 := by rw [hw2]; exact (Below.refl _ _).alloc (Nat.le_refl _) _
  have HP : Hid (Blk w2 w.heap.size 25 [.int .i64 i, .slice A na c]) := Lib.hid (by rw [hw2, hw1]; exact ((Blk.new w _ _).alloc _).alloc _)
  have HQ : Hid (Blk w2 (w.heap.size + 1) 25 [.int .i64 j, .slice B nb d]) := Lib.hid (by
    rw [hw2]; refine Blk.alloc ?_ _; rw [hw1]; simpa using Blk.new (w.alloc (.cells #[.int .i64 i, .slice A na c] 25)) 25 [.int .i64 j, .slice B nb d])
  have hbw : Below w.heap.size w w2 := hbb.trans (hbc.mono (by omega))
  have hs2 := hbw.size
  have HB := Lib.hid hbw
  replace HR := Lib.hid (HR.out.below hbw h0)
  replace HA := Lib.hid (HA.out.below hbw h1)
  replace HC := Lib.hid (HC.out.below hbw h2)
  have HT : Hid (Tasks w2 0 w2.heap.size (some ⟨w1.heap.size, 0, none⟩) 2 [⟨i, A, c, a⟩, ⟨j, B, d, b⟩]) := Lib.hid (tasks_lit2 (by rw [HNa.out, HNb.out]; exact hw2) (HA.out.mono (Nat.zero_le _) (by omega)) (HC.out.mono (Nat.zero_le _) (by omega)))
  clear hw1 hw2 hbb hbc hbw
  obtain ⟨v, hv⟩ : ∃ v, tasksB room [(i, a), (j, b)] = v := ⟨_, rfl⟩
  have HV := Lib.hid hv; clear hv
  have h5 := tasksValid_any R r _ _ room (some ⟨w1.heap.size, 0, none⟩) 2 _ _ [⟨i, A, c, a⟩, ⟨j, B, d, b⟩] w2 HR.out hr HT.out (by simp) (fun t ht => by rcases List.mem_cons.1 ht with rfl | ht; exact (by rw [HNa.out]; exact ha); rcases List.mem_cons.1 ht with rfl | ht; exact (by rw [HNb.out]; exact hb); cases ht) (fun t ht => by rcases List.mem_cons.1 ht with rfl | ht; exact hwi; rcases List.mem_cons.1 ht with rfl | ht; exact hwj; cases ht) (by omega) (Nat.le_refl _)
  rw [show tasksB room (List.map pv [⟨i, A, c, a⟩, ⟨j, B, d, b⟩]) = v from HV.out] at h5
  have H5 := Lib.hid h5; clear h5
  try rw [hs12]
  clear hs12
  refine H5.out.mono ?_; rintro e w3 ⟨rfl, hb3⟩
  have hs3 := hb3.size
  first | replace HR := Lib.hid (Ints.only HR.out hb3 (by omega) (by omega)) | replace HR := Lib.hid (Ints.below HR.out hb3 (by omega))
  first | replace HA := Lib.hid (Ints.only HA.out hb3 (by omega) (by omega)) | replace HA := Lib.hid (Ints.below HA.out hb3 (by omega))
  first | replace HC := Lib.hid (Ints.only HC.out hb3 (by omega) (by omega)) | replace HC := Lib.hid (Ints.below HC.out hb3 (by omega))
  first | replace HB := Lib.hid (Below.trans HB.out (Below.mono hb3 (by omega))) | replace HB := Lib.hid (Below.trans HB.out (Only.below hb3 (by omega) (by omega)))
  first | replace HP := Lib.hid (Blk.only HP.out hb3 (by omega)) | replace HP := Lib.hid (Blk.below HP.out hb3 (by omega))
  first | replace HQ := Lib.hid (Blk.only HQ.out hb3 (by omega)) | replace HQ := Lib.hid (Blk.below HQ.out hb3 (by omega))
  clear hb3 HT H5
  have hp0 := HP.out.cell (i := 0) rfl
  have hp1 := HP.out.cell (i := 1) rfl
  have hq0 := HQ.out.cell (i := 0) rfl
  have hq1 := HQ.out.cell (i := 1) rfl
  cases v
  · go_wp2_with fail
    go_ret
    exact ⟨by simp [tclash_no HV.out], HB.out⟩
  · have hva := tasks_vec HV.out (p := (i, a)) (by simp)
    have hvb := tasks_vec HV.out (p := (j, b)) (by simp)
    have h6 := clash_any i j R A B r c d _ _ _ _ _ _ room a b w3 HR.out HA.out HC.out (vec_len (room_vec (tasks_room HV.out)).1) (GoodN.of_vec hva) (GoodN.of_vec hvb) (by omega) (by omega) (by omega)
    rw [← tclash_yes HV.out, HNa.out, HNb.out] at h6
    have H6 := Lib.hid h6; clear h6 hva hvb
    go_wp2_with fail
    refine H6.out.mono ?_; rintro e w4 ⟨rfl, hb4⟩
    first | replace HB := Lib.hid (Below.trans HB.out (Below.mono hb4 (by omega))) | replace HB := Lib.hid (Below.trans HB.out (Only.below hb4 (by omega) (by omega)))
    clear hb4 hp0 hp1 hq0 hq1
    go_wp2_with fail
    go_ret
    exact ⟨by simp, HB.out⟩
theorem tasksClashS_any (i j : Int) (R A B : Option Addr) (r c d : Nat) (lo hi lo' hi' lo2 hi2 : Nat) (room a b : List Int) (w : World) (hR : Ints w lo2 hi2 R r room) (hA : Ints w lo hi A c a) (hB : Ints w lo' hi' B d b)
    (hr : room.length ≤ 1048576) (ha : a.length ≤ 1048576) (hb : b.length ≤ 1048576) (h0 : hi2 ≤ w.heap.size) (h1 : hi ≤ w.heap.size) (h2 : hi' ≤ w.heap.size) :
    Calls Try.prog 27 #[.slice R room.length r, .agg #[.int .i64 i, .slice A a.length c], .agg #[.int .i64 j, .slice B b.length d]] w fun e w' => e = .returned (.bool (tclashB room (i, a) (j, b))) ∧ Below w.heap.size w w' := by
  have HR := Lib.hid hR; clear hR
  have HA := Lib.hid hA; clear hA
  have HC := Lib.hid hB; clear hB
  obtain ⟨na, hna⟩ : ∃ n, a.length = n := ⟨_, rfl⟩
  obtain ⟨nb, hnb⟩ : ∃ n, b.length = n := ⟨_, rfl⟩
  have HNa := Lib.hid hna
  have HNb := Lib.hid hnb
  rw [hna] at ha ⊢
  rw [hnb] at hb ⊢
  clear hna hnb
  go_enter Try.func27, Try.ntmps27
  go_wp2_with fail
  obtain ⟨w1, hw1⟩ : ∃ W, W = (w.alloc (.cells #[.int .i64 i, .slice A na c] 25)).alloc (.cells #[.int .i64 j, .slice B nb d] 25) := ⟨_, rfl⟩
  obtain ⟨ha1, hb1⟩ := le_le (show w1.heap.size = w.heap.size + 2 by rw [hw1]; simp)
  have hs12 : w.heap.size + 1 + 1 = w1.heap.size := by omega
  rw [← hw1]
  obtain ⟨w2, hw2⟩ : ∃ W, W = w1.alloc (.cells #[.int .i64 i, .slice A na c, .int .i64 j, .slice B nb d] 25) := ⟨_, rfl⟩
  rw [← hw2]
  obtain ⟨hc1, hc2⟩ := le_le (show w2.heap.size = w1.heap.size + 1 by rw [hw2]; simp)
  have hbb : Below w.heap.size w w1 := by rw [hw1]; exact ((Below.refl _ _).alloc (Nat.le_refl _) _).alloc (by simp) _
  have hbc : Below w1.heap.size w1 w2 := by rw [hw2]; exact (Below.refl _ _).alloc (Nat.le_refl _) _
  have HP : Hid (Blk w2 w.heap.size 25 [.int .i64 i, .slice A na c]) := Lib.hid (by rw [hw2, hw1]; exact ((Blk.new w _ _).alloc _).alloc _)
  have HQ : Hid (Blk w2 (w.heap.size + 1) 25 [.int .i64 j, .slice B nb d]) := Lib.hid (by
    rw [hw2]; refine Blk.alloc ?_ _; rw [hw1]; simpa using Blk.new (w.alloc (.cells #[.int .i64 i, .slice A na c] 25)) 25 [.int .i64 j, .slice B nb d])
  have hbw : Below w.heap.size w w2 := hbb.trans (hbc.mono (by omega))
  have hs2 := hbw.size
  have HB := Lib.hid hbw
  replace HR := Lib.hid (HR.out.below hbw h0)
  replace HA := Lib.hid (HA.out.below hbw h1)
  replace HC := Lib.hid (HC.out.below hbw h2)
  have HT : Hid (Tasks w2 0 w2.heap.size (some ⟨w1.heap.size, 0, none⟩) 2 [⟨i, A, c, a⟩, ⟨j, B, d, b⟩]) := Lib.hid (tasks_lit2 (by rw [HNa.out, HNb.out]; exact hw2) (HA.out.mono (Nat.zero_le _) (by omega)) (HC.out.mono (Nat.zero_le _) (by omega)))
  clear hw1 hw2 hbb hbc hbw
  obtain ⟨v, hv⟩ : ∃ v, tasksB room [(i, a), (j, b)] = v := ⟨_, rfl⟩
  have HV := Lib.hid hv; clear hv
  have h5 := tasksValidS_any R r _ _ room (some ⟨w1.heap.size, 0, none⟩) 2 _ _ [⟨i, A, c, a⟩, ⟨j, B, d, b⟩] w2 HR.out hr HT.out (by simp) (fun t ht => by rcases List.mem_cons.1 ht with rfl | ht; exact (by rw [HNa.out]; exact ha); rcases List.mem_cons.1 ht with rfl | ht; exact (by rw [HNb.out]; exact hb); cases ht) (by omega) (Nat.le_refl _)
  rw [show tasksB room (List.map pv [⟨i, A, c, a⟩, ⟨j, B, d, b⟩]) = v from HV.out] at h5
  have H5 := Lib.hid h5; clear h5
  try rw [hs12]
  clear hs12
  refine H5.out.mono ?_; rintro e w3 ⟨rfl, hb3⟩
  have hs3 := hb3.size
  first | replace HR := Lib.hid (Ints.only HR.out hb3 (by omega) (by omega)) | replace HR := Lib.hid (Ints.below HR.out hb3 (by omega))
  first | replace HA := Lib.hid (Ints.only HA.out hb3 (by omega) (by omega)) | replace HA := Lib.hid (Ints.below HA.out hb3 (by omega))
  first | replace HC := Lib.hid (Ints.only HC.out hb3 (by omega) (by omega)) | replace HC := Lib.hid (Ints.below HC.out hb3 (by omega))
  first | replace HB := Lib.hid (Below.trans HB.out (Below.mono hb3 (by omega))) | replace HB := Lib.hid (Below.trans HB.out (Only.below hb3 (by omega) (by omega)))
  first | replace HP := Lib.hid (Blk.only HP.out hb3 (by omega)) | replace HP := Lib.hid (Blk.below HP.out hb3 (by omega))
  first | replace HQ := Lib.hid (Blk.only HQ.out hb3 (by omega)) | replace HQ := Lib.hid (Blk.below HQ.out hb3 (by omega))
  clear hb3 HT H5
  have hp0 := HP.out.cell (i := 0) rfl
  have hp1 := HP.out.cell (i := 1) rfl
  have hq0 := HQ.out.cell (i := 0) rfl
  have hq1 := HQ.out.cell (i := 1) rfl
  cases v
  · go_wp2_with fail
    go_ret
    exact ⟨by simp [tclash_no HV.out], HB.out⟩
  · have hva := tasks_vec HV.out (p := (i, a)) (by simp)
    have hvb := tasks_vec HV.out (p := (j, b)) (by simp)
    have h6 := clashS_any i j R A B r c d _ _ _ _ _ _ room a b w3 HR.out HA.out HC.out (vec_len (room_vec (tasks_room HV.out)).1) (GoodN.of_vec hva) (GoodN.of_vec hvb) (by omega) (by omega) (by omega)
    rw [← tclash_yes HV.out, HNa.out, HNb.out] at h6
    have H6 := Lib.hid h6; clear h6 hva hvb
    go_wp2_with fail
    refine H6.out.mono ?_; rintro e w4 ⟨rfl, hb4⟩
    first | replace HB := Lib.hid (Below.trans HB.out (Below.mono hb4 (by omega))) | replace HB := Lib.hid (Below.trans HB.out (Only.below hb4 (by omega) (by omega)))
    clear hb4 hp0 hp1 hq0 hq1
    go_wp2_with fail
    go_ret
    exact ⟨by simp, HB.out⟩
end Go.Proofs.Ythfhlcmgeacddaa
