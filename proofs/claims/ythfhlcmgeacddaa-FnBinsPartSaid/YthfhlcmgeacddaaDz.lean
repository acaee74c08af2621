/- The generator of a room and a list of tasks. No condition but on sizes. -/
import Derived.Test.YthfhlcmgeacddaaDy
namespace Go.Proofs.Ythfhlcmgeacddaa
open Go.RowKit
/-- small numbers: three of them -/
def GoodN (n : List Int) : Prop := n.length = 3 ∧ ∀ z, z ∈ n → 0 ≤ z ∧ z ≤ 100
def GoodT (t : TaskV) : Prop := GoodN t.need ∧ 0 ≤ t.id ∧ t.id ≤ 100
theorem GoodT.wf {t : TaskV} (h : GoodT t) : (Lit.int .i64 t.id).wf = true := by
  have := h.2
  simp [Lit.wf, IntKind.min, IntKind.max, IntKind.signed, IntKind.bits]
  omega
theorem GoodN.of_vec {n : List Int} (h : vecB n = true) : GoodN n :=
  ⟨vec_len h, fun z hz => by obtain ⟨k, hk⟩ := List.getElem?_of_mem hz; have := vec_at h hk; omega⟩
theorem DTk.good {ti : TypeId} {w : World} {lo : Nat} {t : TaskV} (h : DTk ti w lo t) : GoodT t := ⟨⟨h.len, h.bd.1⟩, h.bd.2⟩
/-- a room and tasks in new memory -/
def GenRL (w : World) (e : Ending) (w' : World) : Prop :=
  ∃ A c, ∃ room : List Int, ∃ B d, ∃ ts : List TaskV, e = .returned (.tuple #[.slice A room.length c, .slice B ts.length d]) ∧
    Ints w' w.heap.size w'.heap.size A c room ∧ GoodN room ∧ Tasks w' w.heap.size w'.heap.size B d ts ∧ (∀ t, t ∈ ts → GoodT t) ∧ ts.length ≤ 16 ∧ Below w.heap.size w w'
theorem DrawTasksValid_any (A : Option Addr) (n c : Nat) (w : World) (hA : BytesR w w.heap.size A n) (hc : n ≤ c) (hm : c ≤ maxLen) :
    Calls Try.prog 23 #[.slice A n c] w (GenRL w) := by
  have HA := Lib.hid hA; clear hA
  go_enter Try.func23, Try.ntmps23
  go_wp2_with fail
  refine (l6Open_any A n c w HA.out hc hm).mono ?_; rintro e w1 ⟨g, rfl, hg, hR, hb⟩
  have hg1 := hR.lt
  have HR := Lib.hid hR; clear hR
  have HB := Lib.hid hb; clear hb
  have hs1 := HB.out.size
  go_wp2_with fail
  refine (l91Room_any g 0 w1 HR.out (by omega)).mono ?_; rintro e w2 ⟨b, x, y, z, p1, rfl, hI, hx, hy, hz, hR, hp0, hp1, hO⟩
  replace HR := Lib.hid hR; clear hR
  have HI := Lib.hid hI; clear hI
  replace HB := Lib.hid (HB.out.trans (hO.below hg hs1))
  have hs2 := hO.size; clear hO
  go_wp2_with fail
  refine (l91Many_any g p1 w2 HR.out (by omega)).mono ?_; rintro e w3 ⟨m, rfl, hm15, hR, hO, hs⟩
  replace HR := Lib.hid hR; clear hR
  obtain ⟨ha3, hb3⟩ := le_le hs; clear hs
  replace HB := Lib.hid (HB.out.trans (hO.below hg (by omega)))
  first | replace HI := Lib.hid (Ints.only HI.out hO (by omega) (by omega)) | replace HI := Lib.hid (Ints.below HI.out hO (by omega))
  clear hO
  go_wp2_with fail
  refine (l91Tasks_any g (p1 + 2) m w3 HR.out (by omega) hm15).mono ?_; rintro e w4 ⟨B, d, ts, p2, rfl, hT, hD, hl, hR, hp2, hp3, hO⟩
  have HT := Lib.hid hT; clear hT
  have HD := Lib.hid hD; clear hD
  replace HB := Lib.hid (HB.out.trans (hO.below hg (by omega)))
  have hs4 := hO.size
  first | replace HI := Lib.hid (Ints.only HI.out hO (by omega) (by omega)) | replace HI := Lib.hid (Ints.below HI.out hO (by omega))
  clear hO hR HR
  go_wp2_with fail
  go_ret2
  refine ⟨some ⟨b, 0, none⟩, 3, [x, y, z], B, d, ts, by simp, HI.out.mono (by omega) (by omega), ⟨rfl, ?_⟩, HT.out.mono (by omega) (Nat.le_refl _), fun t ht => (HD.out t ht).good, hl, HB.out⟩
  intro u hu
  simp at hu
  rcases hu with rfl | rfl | rfl
  · exact hx
  · exact hy
  · exact hz
theorem DrawBinLoad_any (A : Option Addr) (n c : Nat) (w : World) (hA : BytesR w w.heap.size A n) (hc : n ≤ c) (hm : c ≤ maxLen) :
    Calls Try.prog 36 #[.slice A n c] w (GenRL w) := by
  have HA := Lib.hid hA; clear hA
  go_enter Try.func36, Try.ntmps36
  go_wp2_with fail
  refine (DrawTasksValid_any A n c w HA.out hc hm).mono ?_; rintro e w1 ⟨A1, c1, room, B, d, ts, rfl, hI, hg, hT, hgt, hl, hb⟩
  have HI := Lib.hid hI; clear hI
  have HG := Lib.hid hg; clear hg
  have HT := Lib.hid hT; clear hT
  have HGT := Lib.hid hgt; clear hgt
  have HB := Lib.hid hb; clear hb
  go_wp2_with fail
  go_ret2
  exact ⟨A1, c1, room, B, d, ts, by simp, HI.out, HG.out, HT.out, HGT.out, hl, HB.out⟩
