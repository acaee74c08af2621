/- The walk of one statement: by the contracts of what it calls it returns true and changes nothing that was there. No condition. -/
import Derived.Test.YthfhlcmgeacddaaDc
import Derived.Test.YthfhlcmgeacddaaTc
import Derived.Test.YthfhlcmgeacddaaBn
namespace Go.Proofs.Ythfhlcmgeacddaa
open Go.RowKit
theorem bins_lit {w : World} {e : TypeId} {w' : World} {g : Nat} {ts : List TaskV} (hw : w' = w.alloc (.cells #[.slice (some ⟨g, 0, none⟩) ts.length ts.length] e)) (hT : Tasks w' 0 w'.heap.size (some ⟨g, 0, none⟩) ts.length ts) :
    Bins w' 0 w'.heap.size (some ⟨w.heap.size, 0, none⟩) 1 [⟨some ⟨g, 0, none⟩, ts.length, ts⟩] := by
  refine ⟨?_, fun b hb => by rw [List.mem_singleton.1 hb]; exact hT⟩
  have h : w'.ownsRow 0 e 1 (.slice (some ⟨w.heap.size, 0, none⟩) 1 1) 1 [.slice (some ⟨g, 0, none⟩) ts.length ts.length] := by
    rw [hw]
    exact ownsRow_base (World.ownsRow_lit w #[.slice (some ⟨g, 0, none⟩) ts.length ts.length] (e := e) (size := 1) 1 (Nat.le_refl _) (by simp [maxLen]) rfl) (Nat.zero_le _)
  obtain ⟨A9, c9, he, hC⟩ := Cells.of_own h
  simp only [Value.slice.injEq] at he
  obtain ⟨rfl, -, rfl⟩ := he
  exact hC
theorem bins_pair {room : List Int} {i j : Int} {a b : List Int} {A B : Option Addr} {c d : Nat} {g : Option Addr} {n : Nat} (ha : a.length = 3) (hb : b.length = 3) :
    binsB room ([⟨g, n, [⟨i, A, c, a⟩, ⟨j, B, d, b⟩]⟩].map bpv) = (tasksB room [(i, a), (j, b)] && !(clashB room a b)) := bins_two (p := (i, a)) (q := (j, b)) ha hb
set_option maxHeartbeats 4000000 in
theorem FnTasksClashNot_walk (A : Option Addr) (n c : Nat) (w : World) (hA : BytesR w w.heap.size A n) (hc : n ≤ c) (hm : c ≤ maxLen) :
    Calls Try.prog 11 #[.slice A n c] w fun e w' => e = .returned (.bool true) ∧ Below w.heap.size w w' := by
  have HA := Lib.hid hA; clear hA
  by_cases hn : 1048576 < n
  · go_enter Try.func11, Try.ntmps11
    go_wp2
    go_ret
    exact ⟨by simp, Below.refl _ _⟩
  have hnd : ¬ ((1048576 : Int) < (n : Int)) := by omega
  go_enter Try.func11, Try.ntmps11
  go_wp2_with fail
  refine (DrawTasksClash_any A n c w HA.out hc hm).mono ?_; rintro e w1 ⟨R, r, room, i, j, A1, c1, a, B1, d1, b, rfl, hi, hj, hR, hgr, hX, hga, hY, hgb, hB⟩
  have HGr := Lib.hid hgr
  have HGa := Lib.hid hga
  have HGb := Lib.hid hgb
  obtain ⟨nr, hnr⟩ : ∃ n, room.length = n := ⟨_, rfl⟩
  obtain ⟨na, hna⟩ : ∃ n, a.length = n := ⟨_, rfl⟩
  obtain ⟨nb, hnb⟩ : ∃ n, b.length = n := ⟨_, rfl⟩
  have HNr := Lib.hid hnr
  have HNa := Lib.hid hna
  have HNb := Lib.hid hnb
  have hlr : room.length ≤ 1048576 := by rw [hgr.1]; omega
  have hla : a.length ≤ 1048576 := by rw [hga.1]; omega
  have hlb : b.length ≤ 1048576 := by rw [hgb.1]; omega
  have hwi : (Lit.int .i64 i).wf = true := by simp [Lit.wf, IntKind.min, IntKind.max, IntKind.signed, IntKind.bits]; omega
  have hwj : (Lit.int .i64 j).wf = true := by simp [Lit.wf, IntKind.min, IntKind.max, IntKind.signed, IntKind.bits]; omega
  have HWi := Lib.hid hwi
  have HWj := Lib.hid hwj
  have HR := Lib.hid hR
  have HX := Lib.hid hX
  have HY := Lib.hid hY
  have HB := Lib.hid hB
  rw [hnr, hna, hnb]
  clear hgr hga hgb hnr hna hnb hwi hwj hR hX hY hB
  have hs1 := HB.out.size
  go_wp2_with fail
  obtain ⟨w2, hw2⟩ : ∃ W, W = (w1.alloc (.cells #[.int .i64 i, .slice A1 na c1] 25)).alloc (.cells #[.int .i64 j, .slice B1 nb d1] 25) := ⟨_, rfl⟩
  rw [← hw2]
  have hb : Below w1.heap.size w1 w2 := by rw [hw2]; exact ((Below.refl _ _).alloc (Nat.le_refl _) _).alloc (by simp) _
  have HU : Hid (Blk w2 w1.heap.size 25 [.int .i64 i, .slice A1 na c1]) := Lib.hid (by rw [hw2]; exact (Blk.new w1 _ _).alloc _)
  have HV : Hid (Blk w2 (w1.heap.size + 1) 25 [.int .i64 j, .slice B1 nb d1]) := Lib.hid (by rw [hw2]; simpa using Blk.new (w1.alloc (.cells #[.int .i64 i, .slice A1 na c1] 25)) 25 [.int .i64 j, .slice B1 nb d1])
  obtain ⟨ha2, hb2⟩ := le_le (show w2.heap.size = w1.heap.size + 2 by rw [hw2]; simp)
  first | replace HR := Lib.hid (Ints.only HR.out hb (by omega) (by omega)) | replace HR := Lib.hid (Ints.below HR.out hb (by omega))
  first | replace HX := Lib.hid (Ints.only HX.out hb (by omega) (by omega)) | replace HX := Lib.hid (Ints.below HX.out hb (by omega))
  first | replace HY := Lib.hid (Ints.only HY.out hb (by omega) (by omega)) | replace HY := Lib.hid (Ints.below HY.out hb (by omega))
  first | replace HB := Lib.hid (Below.trans HB.out (Below.mono hb (by omega))) | replace HB := Lib.hid (Below.trans HB.out (Only.below hb (by omega) (by omega)))
  clear hb hw2
  obtain ⟨t, ht⟩ : ∃ t, tclashB room (i, a) (j, b) = t := ⟨_, rfl⟩
  have HT := Lib.hid ht
  have HT2 := Lib.hid ((tclashB_comm (room := room) (p := (j, b)) (q := (i, a))).trans ht)
  clear ht
  have h1 := tasksClash_any i j R A1 B1 r c1 d1 _ _ _ _ _ _ room a b w2 HR.out HX.out HY.out hlr hla hlb HWi.out HWj.out (by omega) (by omega) (by omega)
  rw [HT.out, HNr.out, HNa.out, HNb.out] at h1
  have H1 := Lib.hid h1; clear h1
  refine H1.out.mono ?_; rintro e w3 ⟨rfl, hb⟩
  have hsw3 := hb.size
  first | replace HR := Lib.hid (Ints.only HR.out hb (by omega) (by omega)) | replace HR := Lib.hid (Ints.below HR.out hb (by omega))
  first | replace HX := Lib.hid (Ints.only HX.out hb (by omega) (by omega)) | replace HX := Lib.hid (Ints.below HX.out hb (by omega))
  first | replace HY := Lib.hid (Ints.only HY.out hb (by omega) (by omega)) | replace HY := Lib.hid (Ints.below HY.out hb (by omega))
  first | replace HB := Lib.hid (Below.trans HB.out (Below.mono hb (by omega))) | replace HB := Lib.hid (Below.trans HB.out (Only.below hb (by omega) (by omega)))
  first | replace HU := Lib.hid (Blk.only HU.out hb (by omega)) | replace HU := Lib.hid (Blk.below HU.out hb (by omega))
  first | replace HV := Lib.hid (Blk.only HV.out hb (by omega)) | replace HV := Lib.hid (Blk.below HV.out hb (by omega))
  clear hb H1
  have hu0 := HU.out.cell (i := 0) rfl
  have hu1 := HU.out.cell (i := 1) rfl
  have hv0 := HV.out.cell (i := 0) rfl
  have hv1 := HV.out.cell (i := 1) rfl
  have h1 := tasksClashS_any i j R A1 B1 r c1 d1 _ _ _ _ _ _ room a b w3 HR.out HX.out HY.out hlr hla hlb (by omega) (by omega) (by omega)
  rw [HT.out, HNr.out, HNa.out, HNb.out] at h1
  have H1 := Lib.hid h1; clear h1
  go_wp2_with fail
  refine H1.out.mono ?_; rintro e w4 ⟨rfl, hb⟩
  have hsw4 := hb.size
  first | replace HR := Lib.hid (Ints.only HR.out hb (by omega) (by omega)) | replace HR := Lib.hid (Ints.below HR.out hb (by omega))
  first | replace HX := Lib.hid (Ints.only HX.out hb (by omega) (by omega)) | replace HX := Lib.hid (Ints.below HX.out hb (by omega))
  first | replace HY := Lib.hid (Ints.only HY.out hb (by omega) (by omega)) | replace HY := Lib.hid (Ints.below HY.out hb (by omega))
  first | replace HB := Lib.hid (Below.trans HB.out (Below.mono hb (by omega))) | replace HB := Lib.hid (Below.trans HB.out (Only.below hb (by omega) (by omega)))
  first | replace HU := Lib.hid (Blk.only HU.out hb (by omega)) | replace HU := Lib.hid (Blk.below HU.out hb (by omega))
  first | replace HV := Lib.hid (Blk.only HV.out hb (by omega)) | replace HV := Lib.hid (Blk.below HV.out hb (by omega))
  clear hb H1 hu0 hu1 hv0 hv1
  have hu0 := HU.out.cell (i := 0) rfl
  have hu1 := HU.out.cell (i := 1) rfl
  have hv0 := HV.out.cell (i := 0) rfl
  have hv1 := HV.out.cell (i := 1) rfl
  go_wp2_with fail
  obtain ⟨y1, hy1⟩ : ∃ W, W = w4.alloc (.cells #[.int .i64 i, .slice A1 na c1, .int .i64 j, .slice B1 nb d1] 25) := ⟨_, rfl⟩
  obtain ⟨hza, hzb⟩ := le_le (show y1.heap.size = w4.heap.size + 1 by rw [hy1]; simp)
  rw [← hy1]
  have hbb : Below w4.heap.size w4 y1 := by rw [hy1]; exact (Below.refl _ _).alloc (Nat.le_refl _) _
  have hT1 := tasks_lit2 (i := i) (j := j) (A := A1) (B := B1) (c := c1) (d := d1) (by rw [HNa.out, HNb.out]; exact hy1) ((HX.out.below hbb (by omega)).mono (Nat.zero_le _) (by omega)) ((HY.out.below hbb (by omega)).mono (Nat.zero_le _) (by omega))
  have HT1 := Lib.hid hT1
  first | replace HR := Lib.hid (Ints.only HR.out hbb (by omega) (by omega)) | replace HR := Lib.hid (Ints.below HR.out hbb (by omega))
  first | replace HX := Lib.hid (Ints.only HX.out hbb (by omega) (by omega)) | replace HX := Lib.hid (Ints.below HX.out hbb (by omega))
  first | replace HY := Lib.hid (Ints.only HY.out hbb (by omega) (by omega)) | replace HY := Lib.hid (Ints.below HY.out hbb (by omega))
  first | replace HB := Lib.hid (Below.trans HB.out (Below.mono hbb (by omega))) | replace HB := Lib.hid (Below.trans HB.out (Only.below hbb (by omega) (by omega)))
  first | replace HU := Lib.hid (Blk.only HU.out hbb (by omega)) | replace HU := Lib.hid (Blk.below HU.out hbb (by omega))
  first | replace HV := Lib.hid (Blk.only HV.out hbb (by omega)) | replace HV := Lib.hid (Blk.below HV.out hbb (by omega))
  clear hT1 hy1 hbb hu0 hu1 hv0 hv1
  obtain ⟨v, hv⟩ : ∃ v, tasksB room [(i, a), (j, b)] = v := ⟨_, rfl⟩
  have HVv := Lib.hid hv
  clear hv
  have h5 := tasksValidS_any R r _ _ room (some ⟨w4.heap.size, 0, none⟩) 2 _ _ [⟨i, A1, c1, a⟩, ⟨j, B1, d1, b⟩] y1 HR.out hlr HT1.out (by simp) (by intro t ht; simp at ht; rcases ht with rfl | rfl; exact hla; exact hlb) (by omega) (Nat.le_refl _)
  rw [show tasksB room (List.map pv [⟨i, A1, c1, a⟩, ⟨j, B1, d1, b⟩]) = v from HVv.out, HNr.out] at h5
  have H5 := Lib.hid h5
  clear h5
  refine H5.out.mono ?_; rintro e w5 ⟨rfl, hb⟩
  have hsw5 := hb.size
  first | replace HR := Lib.hid (Ints.only HR.out hb (by omega) (by omega)) | replace HR := Lib.hid (Ints.below HR.out hb (by omega))
  first | replace HX := Lib.hid (Ints.only HX.out hb (by omega) (by omega)) | replace HX := Lib.hid (Ints.below HX.out hb (by omega))
  first | replace HY := Lib.hid (Ints.only HY.out hb (by omega) (by omega)) | replace HY := Lib.hid (Ints.below HY.out hb (by omega))
  first | replace HB := Lib.hid (Below.trans HB.out (Below.mono hb (by omega))) | replace HB := Lib.hid (Below.trans HB.out (Only.below hb (by omega) (by omega)))
  first | replace HU := Lib.hid (Blk.only HU.out hb (by omega)) | replace HU := Lib.hid (Blk.below HU.out hb (by omega))
  first | replace HV := Lib.hid (Blk.only HV.out hb (by omega)) | replace HV := Lib.hid (Blk.below HV.out hb (by omega))
  clear hb H5 HT1
  have hu0 := HU.out.cell (i := 0) rfl
  have hu1 := HU.out.cell (i := 1) rfl
  have hv0 := HV.out.cell (i := 0) rfl
  have hv1 := HV.out.cell (i := 1) rfl
  cases v
  · go_wp2_with fail
    go_ret
    exact ⟨by simp, HB.out⟩
  have hte : (tasksB room [(i, a), (j, b)] && !(clashB room a b)) = !t := by
    rw [HVv.out, ← HT.out, tclashB, HVv.out]; simp
  have HTB := Lib.hid hte
  clear hte
  go_wp2_with fail
  obtain ⟨x1, hx1⟩ : ∃ W, W = w5.alloc (.cells #[.int .i64 i, .slice A1 na c1, .int .i64 j, .slice B1 nb d1] 25) := ⟨_, rfl⟩
  obtain ⟨hya, hyb⟩ := le_le (show x1.heap.size = w5.heap.size + 1 by rw [hx1]; simp)
  have hse : w5.heap.size + 1 = x1.heap.size := by omega
  rw [← hx1]
  try rw [hse]
  obtain ⟨x2, hx2⟩ : ∃ W, W = x1.alloc (.cells #[.slice (some ⟨w5.heap.size, 0, none⟩) 2 2] 36) := ⟨_, rfl⟩
  rw [← hx2]
  have hbb : Below w5.heap.size w5 x1 := by rw [hx1]; exact (Below.refl _ _).alloc (Nat.le_refl _) _
  have hbc : Below x1.heap.size x1 x2 := by rw [hx2]; exact (Below.refl _ _).alloc (Nat.le_refl _) _
  have hbd : Below w5.heap.size w5 x2 := hbb.trans (hbc.mono (by omega))
  have hs9 := hbd.size
  have hT1 := tasks_lit2 (i := i) (j := j) (A := A1) (B := B1) (c := c1) (d := d1) (by rw [HNa.out, HNb.out]; exact hx1) ((HX.out.below hbb (by omega)).mono (Nat.zero_le _) (by omega)) ((HY.out.below hbb (by omega)).mono (Nat.zero_le _) (by omega))
  have hBn := bins_lit hx2 ((hT1.below hbc (Nat.le_refl _)).mono (Nat.le_refl _) hbc.size)
  have HBn := Lib.hid hBn
  replace HR := Lib.hid (HR.out.below hbd (by omega))
  replace HB := Lib.hid (HB.out.trans (hbd.mono (by omega)))
  have hq := binsValid_any R r _ _ room (some ⟨x1.heap.size, 0, none⟩) 1 _ _ [⟨some ⟨w5.heap.size, 0, none⟩, 2, [⟨i, A1, c1, a⟩, ⟨j, B1, d1, b⟩]⟩] x2 HR.out hlr HBn.out (by simp) (by simp [bflat]) (by intro t ht; simp [bflat] at ht; rcases ht with rfl | rfl; exact hla; exact hlb) (by intro t ht; simp [bflat] at ht; rcases ht with rfl | rfl; exact HWi.out; exact HWj.out) (by omega) (Nat.le_refl _)
  rw [bins_pair HGa.out.1 HGb.out.1, HNr.out] at hq
  have HQ := Lib.hid hq
  clear hx1 hx2 hbb hbc hbd hT1 hBn hq hse
  rw [HTB.out] at HQ
  refine HQ.out.mono ?_; rintro e w9 ⟨rfl, hb⟩
  replace HB := Lib.hid (HB.out.trans (hb.mono (by omega)))
  clear hb
  go_wp2_with fail
  go_ret
  exact ⟨by cases t <;> simp, HB.out⟩
end Go.Proofs.Ythfhlcmgeacddaa
