/- Contracts of the vectors' functions that make memory. No condition but on sizes. -/
import Derived.Test.YtcmampicgdobcaaVa
import Derived.Test.YtcmampicgdobcaaApp
import Derived.Deep.RegionHeld3
import Derived.WalkSpells
namespace Go.Proofs.Ytcmampicgdobcaa
open Go.RowKit
theorem map_snoc {l m : List Int} {z : Int} (h : m = l ++ [z]) : m.map (Value.int .i64) = l.map (Value.int .i64) ++ [.int .i64 z] := by rw [h]; simp
/-- the cells of a vector that is being filled: the first k are the result's -/
def Fill (z cs : List Int) (k : Nat) : Prop := cs.length = 3 ∧ z.length = 3 ∧ ∀ j, j < k → cs[j]? = z[j]?
theorem Fill.start {z : List Int} (h : z.length = 3) : Fill z [0, 0, 0] 0 := ⟨rfl, h, fun j hj => by omega⟩
theorem Fill.next {z cs : List Int} {k : Nat} {x : Int} (h : Fill z cs k) (hk : k < 3) (hx : z[k]? = some x) : Fill z (cs.set k x) (k + 1) := by
  refine ⟨by simp [h.1], h.2.1, fun j hj => ?_⟩
  by_cases hjk : j = k
  · subst hjk; rw [hx, List.getElem?_set_self (by rw [h.1]; exact hk)]
  · rw [List.getElem?_set_ne (by omega)]; exact h.2.2 j (by omega)
theorem Fill.done {z cs : List Int} {k : Nat} (h : Fill z cs k) (hk : 3 ≤ k) : cs = z := by
  apply List.ext_getElem?
  intro j
  by_cases hj : j < 3
  · exact h.2.2 j (by omega)
  · rw [List.getElem?_eq_none (by rw [h.1]; omega), List.getElem?_eq_none (by rw [h.2.1]; omega)]
theorem own_at {w : World} {base e g n cap : Nat} {cs : List Int} (h : w.ownsRow base e 1 (.slice (some ⟨g, 0, none⟩) n cap) n (cs.map (Value.int .i64))) {k : Nat} (hk : k < n) :
    ∃ y, cs[k]? = some y ∧ w.cell? ⟨g, k, none⟩ = some (.int .i64 y) ∧ w.frozen? ⟨g, k, none⟩ = false := by
  have hl : cs.length = n := by have := h.1; simpa using this
  have hy : cs[k]? = some cs[k] := List.getElem?_eq_getElem (by omega)
  exact ⟨_, hy, by rw [h.cellAt k (by omega), List.getElem?_map, hy]; rfl, h.frozenAt k⟩
theorem own_set {w : World} {base e g n cap : Nat} {cs : List Int} (h : w.ownsRow base e 1 (.slice (some ⟨g, 0, none⟩) n cap) n (cs.map (Value.int .i64))) (k : Nat) (x : Int) :
    (w.setCell ⟨g, k, none⟩ (.int .i64 x)).ownsRow base e 1 (.slice (some ⟨g, 0, none⟩) n cap) n ((cs.set k x).map (Value.int .i64)) := by
  have := (h.stored k (.int .i64 x)).1
  rwa [List.map_set]
theorem elI : Elem Try.prog 23 3 1 8 := Elem.mk' Try.underlying23 (z := .int .i64 0) (by kernel_rfl) rfl (by omega)
theorem addL_some {a b : List Int} {t : Int} {k : Nat} {x y : Int} (hx : a[k]? = some x) (hy : b[k]? = some y) : (addL a b t)[k]? = some (x + t * y) := zip_some (f := fun x y => x + t * y) hx hy
theorem l1Add_any (A B : Option Addr) (c d lo hi lo' hi' : Nat) (a b : List Int) (t : Int) (w : World) (hA : Ints w lo hi A c a) (hB : Ints w lo' hi' B d b) (ha : a.length = 3) (hb : b.length = 3) (h1 : hi ≤ w.heap.size) (h2 : hi' ≤ w.heap.size)
    (hx : ∀ x, x ∈ a → -1000000000 ≤ x ∧ x ≤ 1000000000) (hy : ∀ x, x ∈ b → -1000000000 ≤ x ∧ x ≤ 1000000000) (ht : -1 ≤ t ∧ t ≤ 1) :
    Calls Try.prog 69 #[.slice A a.length c, .slice B b.length d, .int .i64 t] w fun e w' => ∃ A' c', e = .returned (.slice A' 3 c') ∧ Ints w' w.heap.size w'.heap.size A' c' (addL a b t) ∧ Below w.heap.size w w' := by
  have HA := Lib.hid hA; clear hA
  have HB := Lib.hid hB; clear hB
  have Ha := Lib.hid ha
  have Hb := Lib.hid hb
  rw [ha, hb]; clear ha hb
  have Hx := Lib.hid hx; clear hx
  have Hy := Lib.hid hy; clear hy
  go_enter Try.func69, Try.ntmps69
  go_wp2_with fail
  go_loopw [7, 8] (fun v i wr => ∃ k : Nat, k ≤ 3 ∧ i = .int .i64 k ∧ wr.ownsRow w.heap.size 3 1 v k (((addL a b t).take k).map (Value.int .i64)) ∧ Below w.heap.size w wr) (fun _ i _ => 3 - (intOf i).toNat)
  case atStart =>
    exact ⟨0, by omega, rfl, ownsRow_empty w _ _, (Below.refl _ _).alloc (Nat.le_refl _) _⟩
  case round =>
    obtain ⟨k, hk, rfl, hown, hbl⟩ := hrel
    have HO := Lib.hid hown; clear hown
    have HBl := Lib.hid hbl; clear hbl
    have hsz := HBl.out.size
    by_cases hlt : k < 3
    · obtain ⟨p, off, x, rfl, hx, hc, _, _, hp⟩ := (HA.out.below HBl.out h1).at_ (k := k) (by have := Ha.out; omega)
      obtain ⟨p', off', y, rfl, hy, hc', _, _, hp'⟩ := (HB.out.below HBl.out h2).at_ (k := k) (by have := Hb.out; omega)
      have hxb := Hx.out x (List.mem_of_getElem? hx)
      have hyb := Hy.out y (List.mem_of_getElem? hy)
      have HZ := Lib.hid (map_snoc (take_succ_some (addL_some (t := t) hx hy)))
      have hty : -1000000000 ≤ t * y ∧ t * y ≤ 1000000000 := by
        rcases (show t = -1 ∨ t = 0 ∨ t = 1 by omega) with rfl | rfl | rfl <;> omega
      have hw1 : IntKind.i64.wrap (t * y) = t * y := wrap_small (by omega)
      have hw2 : IntKind.i64.wrap (x + t * y) = x + t * y := wrap_small (by omega)
      clear hx hy hxb hyb hty
      have hn1 : ((k : Nat) : Int) < 3 := by omega
      have hq1 : p < w.heap.size := by omega
      have hq2 : p' < w.heap.size := by omega
      go_wp2_with fail
      go_region_held3 (fun w' => w'.cell? ⟨p, off + k, none⟩ = some (.int .i64 x) ∧ w'.cell? ⟨p', off' + k, none⟩ = some (.int .i64 y))
        (first
          | go_keep
          | (go_split_ands
             refine ⟨?_, ?_⟩
             · (rw [hb1.cell hq1]; assumption)
             · (rw [hb1.cell hq2]; assumption)))
        ((refine step_app1 elI rfl (.tmp 14) (.tmp 26) rfl wr _ HO.out [.int .i64 (x + t * y)] rfl rfl ⟨rfl, rfl, rfl, rfl⟩ rfl (one_int _) hsz ?_ ?_ ?_
          · simp [maxLen]; omega
          · omega
          intro gg cap w1 hown1 hb1 hg1 hlt1 hat1))
      have HB1 := Lib.hid hb1; clear hb1
      have HO1 := Lib.hid hown1; clear hown1
      clear hw1 hw2 hc hc' hg1 hat1
      go_wp2
      go_roundw
      case rel => exact ⟨k + 1, by omega, by go_num, by rw [HZ.out]; exact HO1.out, HBl.out.trans HB1.out⟩
      case measure => simp [intOf]; omega
    · have hO := HO.out
      rw [List.take_of_length_le (by simp [addL, Ha.out, Hb.out]; omega)] at hO
      obtain ⟨A', c', rfl, hl, hI⟩ := Ints.of_own hO
      clear hO
      have HI := Lib.hid hI; clear hI
      have hl3 : (addL a b t).length = 3 := by simp [addL, Ha.out, Hb.out]
      rw [hl3]
      clear hl hl3
      go_wp2
      go_ret
      exact ⟨A', c', rfl, HI.out, HBl.out⟩
theorem maxL_some {a b : List Int} {k : Nat} {x y : Int} (hx : a[k]? = some x) (hy : b[k]? = some y) : (maxL a b)[k]? = some (max x y) := zip_some (f := fun x y => max x y) hx hy
theorem plus_make : ∀ w : World, (Instr.makeSlice 65 (.int .i64 3) (.int .i64 3)).run Try.prog w = .ok (.slice (some ⟨w.heap.size, 0, none⟩) 3 3) (w.alloc (.cells #[.int .i64 0, .int .i64 0, .int .i64 0] 3)) := fun _ => by kernel_rfl
theorem plus_any (A B : Option Addr) (c d lo hi lo' hi' : Nat) (a b : List Int) (w : World) (hA : Ints w lo hi A c a) (hB : Ints w lo' hi' B d b) (ha : a.length = 3) (hb : b.length = 3) (h1 : hi ≤ w.heap.size) (h2 : hi' ≤ w.heap.size)
    (hx : ∀ x, x ∈ a → -1000000000 ≤ x ∧ x ≤ 1000000000) (hy : ∀ x, x ∈ b → -1000000000 ≤ x ∧ x ≤ 1000000000) :
    Calls Try.prog 50 #[.slice A a.length c, .slice B b.length d] w fun e w' => ∃ A' c', e = .returned (.slice A' 3 c') ∧ Ints w' w.heap.size w'.heap.size A' c' (addL a b 1) ∧ Below w.heap.size w w' := by
  have HA := Lib.hid hA; clear hA
  have HB := Lib.hid hB; clear hB
  have Ha := Lib.hid ha
  have Hb := Lib.hid hb
  rw [ha, hb]; clear ha hb
  have Hx := Lib.hid hx; clear hx
  have Hy := Lib.hid hy; clear hy
  have hmk := plus_make
  go_enter Try.func50, Try.ntmps50
  go_wp2_with fail
  clear hmk
  go_loopw [10] (fun i wr => ∃ k : Nat, ∃ cs : List Int, k ≤ 3 ∧ i = .int .i64 k ∧ wr.ownsRow w.heap.size 3 1 (.slice (some ⟨w.heap.size, 0, none⟩) 3 3) 3 (cs.map (Value.int .i64)) ∧ Fill (addL a b 1) cs k ∧ Below w.heap.size w wr) (fun i _ => 3 - (intOf i).toNat)
  case atStart =>
    exact ⟨0, [0, 0, 0], by omega, rfl, World.ownsRow_lit w #[.int .i64 0, .int .i64 0, .int .i64 0] 3 (Nat.le_refl _) (by simp [maxLen]) rfl, Fill.start (by simp [addL, Ha.out, Hb.out]), (Below.refl _ _).alloc (Nat.le_refl _) _⟩
  case round =>
    obtain ⟨k, cs, hk, rfl, hown, hfill, hbl⟩ := hrel
    have HO := Lib.hid hown; clear hown
    have HBl := Lib.hid hbl; clear hbl
    have HF := Lib.hid hfill; clear hfill
    by_cases hlt : k < 3
    · obtain ⟨p, off, x, rfl, hx, hc, _, _, hp⟩ := (HA.out.below HBl.out h1).at_ (k := k) (by have := Ha.out; omega)
      obtain ⟨p', off', y, rfl, hy, hc', _, _, hp'⟩ := (HB.out.below HBl.out h2).at_ (k := k) (by have := Hb.out; omega)
      obtain ⟨u, _, hc0, hf0⟩ := own_at HO.out hlt
      have hxb := Hx.out x (List.mem_of_getElem? hx)
      have hyb := Hy.out y (List.mem_of_getElem? hy)
      have HZ := Lib.hid (addL_some (t := 1) hx hy)
      clear hx hy
      have hn1 : ((k : Nat) : Int) < 3 := by omega
      have hq1 : p ≠ w.heap.size := by omega
      have hq2 : p' ≠ w.heap.size := by omega
      go_wp2_with fail
      go_region
      go_wp2
      have hxe : x + y = x + 1 * y := by omega
      rw [hxe]
      go_roundw
      case rel => exact ⟨k + 1, _, by omega, by go_num, own_set HO.out k (x + 1 * y), HF.out.next hlt HZ.out, (HBl.out.setCell (p := ⟨w.heap.size, k, none⟩) (Nat.le_refl _) _).drew⟩
      case measure => simp [intOf]; omega
    · have hO := HO.out
      rw [HF.out.done (by omega)] at hO
      obtain ⟨A', c', he, hl, hI⟩ := Ints.of_own hO
      have hl3 : (addL a b 1).length = 3 := by simp [addL, Ha.out, Hb.out]
      rw [hl3] at he
      have HE := Lib.hid he
      have HI := Lib.hid hI
      clear hO he hl hI hl3
      go_wp2
      go_ret
      exact ⟨A', c', by simpa using HE.out, HI.out, HBl.out⟩
