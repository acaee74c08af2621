/- Loads of tasks: l2Load and loadOf. No condition but on sizes. -/
import Derived.Test.YtcmampicgdobcaaDz
import Derived.Test.YtcmampicgdobcaaBp
import Derived.Test.YtcmampicgdobcaaVm
import Derived.Test.YtcmampicgdobcaaTx
import Derived.Test.YtcmampicgdobcaaTm
namespace Go.Proofs.Ytcmampicgdobcaa
open Go.RowKit
def needs (ts : List TaskV) : List (List Int) := ts.map (·.need)
theorem needs_pv (ts : List TaskV) : (ts.map pv).map Prod.snd = needs ts := by simp [needs, pv]
theorem needs_snoc {ts : List TaskV} {k : Nat} {t : TaskV} (h : ts[k]? = some t) : needs (ts.take (k + 1)) = needs (ts.take k) ++ [t.need] := by
  rw [take_succ_some h]; simp [needs]
theorem load_small {ts : List TaskV} {k : Nat} (hg : ∀ t, t ∈ ts → GoodN t.need) (hl : ts.length ≤ 1000) (hk : k ≤ ts.length) : ∀ x, x ∈ loadL (needs (ts.take k)) → 0 ≤ x ∧ x ≤ 1000000 := by
  have h : ∀ j, 0 ≤ loadC j (needs (ts.take k)) ∧ loadC j (needs (ts.take k)) ≤ 1000000 := by
    intro j
    have := loadC_bd (j := j) (ns := needs (ts.take k)) (M := 100) (by omega) (fun n hn z hz => by
      obtain ⟨t, ht, rfl⟩ := List.mem_map.1 hn
      exact (hg t (List.mem_of_mem_take ht)).2 z hz)
    have e : (needs (ts.take k)).length = k := by simp [needs]; omega
    rw [e] at this
    omega
  intro x hx
  simp only [loadL, List.mem_cons, List.mem_nil_iff, or_false] at hx
  rcases hx with rfl | rfl | rfl <;> exact h _
theorem add_form (b off k : Nat) : (⟨b, off, none⟩ : Addr).add k = ⟨b, off + k, none⟩ := by
  unfold Addr.add; split <;> simp_all
theorem Tasks.dropA {w : World} {lo hi b off d : Nat} {ts : List TaskV} (h : Tasks w lo hi (some ⟨b, off, none⟩) d ts) {k : Nat} (hk : k ≤ ts.length) (hd : k < d) :
    Tasks w lo hi (some ⟨b, off + k * 2, none⟩) (d - k) (ts.drop k) := by
  have := h.drop hk
  rwa [if_neg (by omega), Option.map_some, add_form] at this
theorem Tasks.one {w : World} {lo hi b off d k : Nat} {ts : List TaskV} {t : TaskV} (h : Tasks w lo hi (some ⟨b, off, none⟩) d ts) (ht : ts[k]? = some t) :
    Tasks w lo hi (some ⟨b, off + k * 2, none⟩) (d - k) [t] := by
  have hk : k < ts.length := (List.getElem?_eq_some_iff.1 ht).1
  have h1 := (h.dropA (k := k) (by omega) (by have := h.len.1; omega)).take (k := 1) (by simp; omega)
  rwa [List.drop_eq_getElem_cons hk, (List.getElem?_eq_some_iff.1 ht).2, List.take_succ_cons, List.take_zero] at h1
theorem l2Load_any (A : Option Addr) (c lo hi : Nat) (ts : List TaskV) (w : World) (hT : Tasks w lo hi A c ts) (hl : ts.length ≤ 1000) (hg : ∀ t, t ∈ ts → GoodN t.need) (h1 : hi ≤ w.heap.size) :
    Calls Try.prog 63 #[.slice A ts.length c] w fun e w' => ∃ A' c', e = .returned (.slice A' 3 c') ∧ Ints w' w.heap.size w'.heap.size A' c' (loadL (needs ts)) ∧ Below w.heap.size w w' := by
  have HT := Lib.hid hT; clear hT
  have HG := Lib.hid hg; clear hg
  go_enter Try.func63, Try.ntmps63
  go_wp2_with fail
  go_loopw [3, 4] (fun o i wr => ∃ k : Nat, ∃ A' c', k ≤ ts.length ∧ i = .int .i64 k ∧ o = .slice A' 3 c' ∧ Ints wr w.heap.size wr.heap.size A' c' (loadL (needs (ts.take k))) ∧ Below w.heap.size w wr) (fun _ i _ => ts.length - (intOf i).toNat)
  case atStart =>
    refine ⟨0, _, _, by omega, rfl, rfl, ?_, (Below.refl _ _).alloc (Nat.le_refl _) _⟩
    have := Ints.of_blk (zs := [0, 0, 0]) (Blk.new w 3 [.int .i64 0, .int .i64 0, .int .i64 0]) (by simp [maxLen])
    exact this.mono (Nat.le_refl _) (by simp)
  case round =>
    obtain ⟨k, A', c', hk, rfl, rfl, hI, hbl⟩ := hrel
    have HI := Lib.hid hI; clear hI
    have HB := Lib.hid hbl; clear hbl
    have hsz := HB.out.size
    by_cases hlt : k < ts.length
    · obtain ⟨b, off, t, rfl, ht, hc1, hc2, _, hbh, hN⟩ := (HT.out.below HB.out h1).at_ hlt
      have HGt := Lib.hid (HG.out t (List.mem_of_getElem? ht))
      have HS := Lib.hid (loadL_add (needs_snoc ht) HGt.out.1)
      have HL := Lib.hid (load_small HG.out hl hk)
      have HN := Lib.hid hN; clear hN ht
      have hklt : (k : Int) < ts.length := by omega
      go_wp2_with fail
      have h2 := l1Add_any A' t.a c' t.c _ _ _ _ (loadL (needs (ts.take k))) t.need 1 wr HI.out HN.out rfl HGt.out.1 (Nat.le_refl _) (by omega) (fun x hx => by have := HL.out x hx; omega) (fun x hx => by have := HGt.out.2 x hx; omega) (by omega)
      rw [loadL_len] at h2
      refine h2.mono ?_; rintro e w2 ⟨A2, c2, rfl, hI2, hb⟩
      clear h2
      rw [HS.out] at hI2
      have hs2 := hb.size
      first | replace HB := Lib.hid (Below.trans HB.out (Below.mono hb (by omega))) | replace HB := Lib.hid (Below.trans HB.out (Only.below hb (by omega) (by omega)))
      clear hb
      go_wp2
      go_roundw
      case rel => exact ⟨k + 1, A2, c2, by omega, by go_num, rfl, hI2.mono (by omega) (Nat.le_refl _), HB.out⟩
      case measure => simp [intOf]; omega
    · have hkl : ts.take k = ts := List.take_of_length_le (by omega)
      rw [hkl] at HI
      clear hkl
      go_wp2
      go_ret
      exact ⟨A', c', by simp, HI.out, HB.out⟩
theorem loadOf_any (A : Option Addr) (c lo hi : Nat) (ts : List TaskV) (w : World) (hT : Tasks w lo hi A c ts) (hl : ts.length ≤ 1000) (hg : ∀ t, t ∈ ts → GoodN t.need) (h1 : hi ≤ w.heap.size) :
    Calls Try.prog 36 #[.slice A ts.length c] w fun e w' => ∃ A' c', e = .returned (.slice A' 3 c') ∧ Ints w' w.heap.size w'.heap.size A' c' (loadL (needs ts)) ∧ Below w.heap.size w w' := by
  have HT := Lib.hid hT; clear hT
  have HG := Lib.hid hg; clear hg
  go_enter Try.func36, Try.ntmps36
  go_wp2_with fail
  refine (zeros_any w).mono ?_; rintro e w0 ⟨rfl, rfl⟩
  go_wp2_with fail
  go_loopw [3, 9] (fun o i wr => ∃ k : Nat, ∃ A' c', k ≤ ts.length ∧ i = .int .i64 k ∧ o = .slice A' 3 c' ∧ Ints wr w.heap.size wr.heap.size A' c' (loadL (needs (ts.take k))) ∧ Below w.heap.size w wr) (fun _ i _ => ts.length - (intOf i).toNat)
  case atStart =>
    refine ⟨0, _, _, by omega, rfl, rfl, ?_, (Below.refl _ _).alloc (Nat.le_refl _) _⟩
    have := Ints.of_blk (zs := [0, 0, 0]) (Blk.new w 3 [.int .i64 0, .int .i64 0, .int .i64 0]) (by simp [maxLen])
    exact this.mono (Nat.le_refl _) (by simp)
  case round =>
    obtain ⟨k, A', c', hk, rfl, rfl, hI, hbl⟩ := hrel
    have HI := Lib.hid hI; clear hI
    have HB := Lib.hid hbl; clear hbl
    have hsz := HB.out.size
    by_cases hlt : k < ts.length
    · obtain ⟨b, off, t, rfl, ht, hc1, hc2, _, hbh, hN⟩ := (HT.out.below HB.out h1).at_ hlt
      have HGt := Lib.hid (HG.out t (List.mem_of_getElem? ht))
      have HS := Lib.hid (loadL_add (needs_snoc ht) HGt.out.1)
      have HL := Lib.hid (load_small HG.out hl hk)
      have HN := Lib.hid hN; clear hN ht
      have hklt : (k : Int) < ts.length := by omega
      go_wp2_with fail
      obtain ⟨w1, hw1⟩ : ∃ W, W = wr.alloc (.cells #[.int .i64 t.id, .slice t.a t.need.length t.c] 62) := ⟨_, rfl⟩
      rw [← hw1]
      have hb : Below wr.heap.size wr w1 := by rw [hw1]; exact (Below.refl _ _).alloc (Nat.le_refl _) _
      have hs1 := hb.size
      first | replace HB := Lib.hid (Below.trans HB.out (Below.mono hb (by omega))) | replace HB := Lib.hid (Below.trans HB.out (Only.below hb (by omega) (by omega)))
      first | replace HI := Lib.hid (Ints.only HI.out hb (by omega) (by omega)) | replace HI := Lib.hid (Ints.below HI.out hb (by omega))
      first | replace HN := Lib.hid (Ints.only HN.out hb (by omega) (by omega)) | replace HN := Lib.hid (Ints.below HN.out hb (by omega))
      clear hb hw1
      have h2 := plus_any A' t.a c' t.c _ _ _ _ (loadL (needs (ts.take k))) t.need w1 HI.out HN.out rfl HGt.out.1 (by omega) (by omega) (fun x hx => by have := HL.out x hx; omega) (fun x hx => by have := HGt.out.2 x hx; omega)
      rw [loadL_len] at h2
      refine h2.mono ?_; rintro e w2 ⟨A2, c2, rfl, hI2, hb⟩
      clear h2
      rw [HS.out] at hI2
      have hs2 := hb.size
      first | replace HB := Lib.hid (Below.trans HB.out (Below.mono hb (by omega))) | replace HB := Lib.hid (Below.trans HB.out (Only.below hb (by omega) (by omega)))
      clear hb
      go_wp2
      go_roundw
      case rel => exact ⟨k + 1, A2, c2, by omega, by go_num, rfl, hI2.mono (by omega) (Nat.le_refl _), HB.out⟩
      case measure => simp [intOf]; omega
    · have hkl : ts.take k = ts := List.take_of_length_le (by omega)
      rw [hkl] at HI
      clear hkl
      go_wp2
      go_ret
      exact ⟨A', c', by simp, HI.out, HB.out⟩
/-- what BinLoad hands back -/
def RetL (w : World) (zs : List Int) (e : Ending) (w' : World) : Prop :=
  ∃ A c, e = .returned (.slice A zs.length c) ∧ Ints w' w.heap.size w'.heap.size A c zs ∧ Below w.heap.size w w'
theorem tasks_len14 {room : List Int} {ts : List TaskV} (h : tasksB room (ts.map pv) = true) : ts.length ≤ 14 := by
  have := (tasksB_iff.1 h).2.2.2
  simpa using this
theorem tasks_good {room : List Int} {ts : List TaskV} (h : tasksB room (ts.map pv) = true) : ∀ t, t ∈ ts → GoodN t.need :=
  fun t ht => GoodN.of_vec (tasks_vec h (List.mem_map.2 ⟨t, ht, rfl⟩))
