/- Conflicts of two tasks and the bound by sums. No condition but on sizes. -/
import Derived.Test.YthfhlcmgeacddaaLo
namespace Go.Proofs.Ythfhlcmgeacddaa
open Go.RowKit
theorem good_bd {n : List Int} (h : GoodN n) : ∀ x, x ∈ n → -1000000000 ≤ x ∧ x ≤ 1000000000 := fun x hx => by have := h.2 x hx; omega
theorem clash_any (i j : Int) (R A B : Option Addr) (r c d : Nat) (lo hi lo' hi' lo2 hi2 : Nat) (room a b : List Int) (w : World) (hR : Ints w lo2 hi2 R r room) (hA : Ints w lo hi A c a) (hB : Ints w lo' hi' B d b)
    (hr : room.length = 3) (ha : GoodN a) (hb : GoodN b) (h0 : hi2 ≤ w.heap.size) (h1 : hi ≤ w.heap.size) (h2 : hi' ≤ w.heap.size) :
    Calls Try.prog 60 #[.slice R room.length r, .agg #[.int .i64 i, .slice A a.length c], .agg #[.int .i64 j, .slice B b.length d]] w fun e w' => e = .returned (.bool (clashB room a b)) ∧ Below w.heap.size w w' := by
  have HR := Lib.hid hR; clear hR
  have HA := Lib.hid hA; clear hA
  have HC := Lib.hid hB; clear hB
  have HGa := Lib.hid ha; clear ha
  have HGb := Lib.hid hb; clear hb
  have Hr := Lib.hid hr; clear hr
  go_enter Try.func60, Try.ntmps60
  go_wp2_with fail
  obtain ⟨w1, hw1⟩ : ∃ W, W = (w.alloc (.cells #[.int .i64 i, .slice A a.length c] 25)).alloc (.cells #[.int .i64 j, .slice B b.length d] 25) := ⟨_, rfl⟩
  rw [← hw1]
  have hb : Below w.heap.size w w1 := by rw [hw1]; exact ((Below.refl _ _).alloc (Nat.le_refl _) _).alloc (by simp) _
  have HB := Lib.hid hb
  have hs1 := hb.size
  first | replace HR := Lib.hid (Ints.only HR.out hb (by omega) (by omega)) | replace HR := Lib.hid (Ints.below HR.out hb (by omega))
  first | replace HA := Lib.hid (Ints.only HA.out hb (by omega) (by omega)) | replace HA := Lib.hid (Ints.below HA.out hb (by omega))
  first | replace HC := Lib.hid (Ints.only HC.out hb (by omega) (by omega)) | replace HC := Lib.hid (Ints.below HC.out hb (by omega))
  clear hb hw1
  refine (plus_any A B c d _ _ _ _ a b w1 HA.out HC.out HGa.out.1 HGb.out.1 (by omega) (by omega) (good_bd HGa.out) (good_bd HGb.out)).mono ?_; rintro e w2 ⟨A2, c2, rfl, hI, hb⟩
  have HI := Lib.hid hI; clear hI
  have hs2 := hb.size
  first | replace HR := Lib.hid (Ints.only HR.out hb (by omega) (by omega)) | replace HR := Lib.hid (Ints.below HR.out hb (by omega))
  first | replace HB := Lib.hid (Below.trans HB.out (Below.mono hb (by omega))) | replace HB := Lib.hid (Below.trans HB.out (Only.below hb (by omega) (by omega)))
  clear hb
  have hl3 : (addL a b 1).length = 3 := addL_len HGa.out.1 HGb.out.1
  have h3 := fits_any A2 R c2 r _ _ _ _ (addL a b 1) room w2 HI.out HR.out hl3 Hr.out
  rw [hl3] at h3
  have H3 := Lib.hid h3
  clear hl3 h3
  go_wp2_with fail
  refine H3.out.mono ?_; rintro e w' ⟨rfl, rfl⟩
  go_wp2_with fail
  go_ret
  exact ⟨by simp [clashB], HB.out⟩
theorem clashS_any (i j : Int) (R A B : Option Addr) (r c d : Nat) (lo hi lo' hi' lo2 hi2 : Nat) (room a b : List Int) (w : World) (hR : Ints w lo2 hi2 R r room) (hA : Ints w lo hi A c a) (hB : Ints w lo' hi' B d b)
    (hr : room.length = 3) (ha : GoodN a) (hb : GoodN b) (h0 : hi2 ≤ w.heap.size) (h1 : hi ≤ w.heap.size) (h2 : hi' ≤ w.heap.size) :
    Calls Try.prog 59 #[.slice R room.length r, .agg #[.int .i64 i, .slice A a.length c], .agg #[.int .i64 j, .slice B b.length d]] w fun e w' => e = .returned (.bool (clashB room a b)) ∧ Below w.heap.size w w' := by
  have HR := Lib.hid hR; clear hR
  have HA := Lib.hid hA; clear hA
  have HC := Lib.hid hB; clear hB
  have HGa := Lib.hid ha; clear ha
  have HGb := Lib.hid hb; clear hb
  have Hr := Lib.hid hr; clear hr
  go_enter Try.func59, Try.ntmps59
  go_wp2_with fail
  obtain ⟨w1, hw1⟩ : ∃ W, W = (w.alloc (.cells #[.int .i64 i, .slice A a.length c] 25)).alloc (.cells #[.int .i64 j, .slice B b.length d] 25) := ⟨_, rfl⟩
  rw [← hw1]
  have hb : Below w.heap.size w w1 := by rw [hw1]; exact ((Below.refl _ _).alloc (Nat.le_refl _) _).alloc (by simp) _
  have HB := Lib.hid hb
  have hs1 := hb.size
  first | replace HR := Lib.hid (Ints.only HR.out hb (by omega) (by omega)) | replace HR := Lib.hid (Ints.below HR.out hb (by omega))
  first | replace HA := Lib.hid (Ints.only HA.out hb (by omega) (by omega)) | replace HA := Lib.hid (Ints.below HA.out hb (by omega))
  first | replace HC := Lib.hid (Ints.only HC.out hb (by omega) (by omega)) | replace HC := Lib.hid (Ints.below HC.out hb (by omega))
  clear hb hw1
  refine (l1Add_any A B c d _ _ _ _ a b 1 w1 HA.out HC.out HGa.out.1 HGb.out.1 (by omega) (by omega) (good_bd HGa.out) (good_bd HGb.out) (by omega)).mono ?_; rintro e w2 ⟨A2, c2, rfl, hI, hb⟩
  have HI := Lib.hid hI; clear hI
  have hs2 := hb.size
  first | replace HR := Lib.hid (Ints.only HR.out hb (by omega) (by omega)) | replace HR := Lib.hid (Ints.below HR.out hb (by omega))
  first | replace HB := Lib.hid (Below.trans HB.out (Below.mono hb (by omega))) | replace HB := Lib.hid (Below.trans HB.out (Only.below hb (by omega) (by omega)))
  clear hb
  have hl3 : (addL a b 1).length = 3 := addL_len HGa.out.1 HGb.out.1
  have h3 := l1Fits_any A2 R c2 r _ _ _ _ (addL a b 1) room w2 HI.out HR.out hl3 Hr.out
  rw [hl3] at h3
  have H3 := Lib.hid h3
  clear hl3 h3
  go_wp2_with fail
  refine H3.out.mono ?_; rintro e w3 ⟨rfl, hd⟩
  replace HB := Lib.hid (HB.out.trans ((drawn_below hd).mono (by omega)))
  clear hd
  go_wp2_with fail
  go_ret
  exact ⟨by simp [clashB], HB.out⟩
