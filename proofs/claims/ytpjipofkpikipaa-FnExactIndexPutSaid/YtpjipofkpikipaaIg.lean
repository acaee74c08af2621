/- The reference's index functions: l3Build, IndexOf, l3Same. No condition but on sizes. -/
import Derived.Test.YtpjipofkpikipaaIf
namespace Go.Proofs.Ytpjipofkpikipaa
open Go.RowKit
theorem ints_lit0 (w : World) : Ints (w.alloc (.cells #[.int .i64 0, .int .i64 0, .int .i64 0] 3)) w.heap.size (w.alloc (.cells #[.int .i64 0, .int .i64 0, .int .i64 0] 3)).heap.size (some ⟨w.heap.size, 0, none⟩) 3 [0, 0, 0] := by
  have hP : Blk (w.alloc (.cells #[.int .i64 0, .int .i64 0, .int .i64 0] 3)) w.heap.size 3 (([0, 0, 0] : List Int).map (Value.int .i64)) := Blk.new w _ _
  refine ⟨by simp, by simp [maxLen], .inr ⟨w.heap.size, 0, rfl, Nat.le_refl _, hP.lt, fun j y hj => ?_⟩⟩
  have hc := hP.cell (i := j) (v := .int .i64 y) (by rw [List.getElem?_map, hj]; rfl)
  exact ⟨by simpa using hc, by have := hP.frozen (0 + j); exact this⟩
theorem alloc_below (w : World) (o : Obj) : Below w.heap.size w (w.alloc o) := (Below.refl _ _).alloc (Nat.le_refl _) _
theorem Tab.lit0 {w : World} {T n k : Nat} {us : List RowV} (h : Tab w T n 28 us) :
    Tab ((w.alloc (.cells #[.int .i64 0, .int .i64 0, .int .i64 0] 3)).setCell ⟨T, k, none⟩ (.slice (some ⟨w.heap.size, 0, none⟩) 3 3)) T n 28 (us.set k ⟨some ⟨w.heap.size, 0, none⟩, 3, [0, 0, 0]⟩) :=
  h.set_ (t := ⟨some ⟨w.heap.size, 0, none⟩, 3, [0, 0, 0]⟩) (alloc_below w _) (ints_lit0 w)
theorem setCell_below {w w' : World} {B : Nat} (h : Below B w w') {T : Nat} (hT : B ≤ T) (k : Nat) (v : Value) : Below B w (w'.setCell ⟨T, k, none⟩ v) := h.setCell (p := ⟨T, k, none⟩) hT v
theorem setCell_size (w : World) (a : Addr) (u : Value) : (w.setCell a u).heap.size = w.heap.size := by simp [World.setCell]
/-- what is known of the table while it is filled -/
structure Fil (P : List (List Int)) (a b : Nat) (us : List RowV) : Prop where
  zero : us[0]?.map RowV.xs = some [0, 0, 0]
  leaf : ∀ j, j < a → us[16 + j]?.map RowV.xs = P[j]?
  up : ∀ j, b < j → j < 16 → us[j]?.map RowV.xs = some (nodeN P j)
theorem map_set_self {us : List RowV} {k : Nat} {t : RowV} (h : k < us.length) : (us.set k t)[k]?.map RowV.xs = some t.xs := by rw [List.getElem?_set_self h]; rfl
theorem map_set_ne {us : List RowV} {k j : Nat} {t : RowV} (h : k ≠ j) : (us.set k t)[j]?.map RowV.xs = us[j]?.map RowV.xs := by rw [List.getElem?_set_ne h]
theorem Fil.leaf_ {P : List (List Int)} {k : Nat} {us : List RowV} {r : RowV} (h : Fil P k 16 us) (hl : us.length = 32) (hk : k < 16) (hr : P[k]? = some r.xs) : Fil P (k + 1) 16 (us.set (16 + k) r) := by
  refine ⟨by rw [map_set_ne (by omega)]; exact h.zero, fun j hj => ?_, fun j h1 h2 => by omega⟩
  by_cases hjk : j = k
  · subst hjk; rw [map_set_self (by omega), hr]
  · rw [map_set_ne (by omega)]; exact h.leaf j (by omega)
theorem Fil.at_ {P : List (List Int)} {k j : Nat} {us : List RowV} (h : Fil P 16 k us) (hP : P.length = 16) (h1 : k < j) (h2 : j < 32) : us[j]?.map RowV.xs = some (nodeN P j) := by
  by_cases hj : j < 16
  · exact h.up j h1 hj
  · obtain ⟨i, rfl⟩ : ∃ i, j = 16 + i := ⟨j - 16, by omega⟩
    rw [h.leaf i (by omega), nodeN_leaf, List.getD, List.getElem?_eq_getElem (by omega)]; rfl
theorem Fil.next {P : List (List Int)} {k : Nat} {us : List RowV} {r : RowV} (h : Fil P 16 (k + 1) us) (hl : us.length = 32) (hk : k + 1 < 16) (hr : r.xs = nodeN P (k + 1)) : Fil P 16 k (us.set (k + 1) r) := by
  refine ⟨by rw [map_set_ne (by omega)]; exact h.zero, fun j hj => by rw [map_set_ne (by omega)]; exact h.leaf j hj, fun j h1 h2 => ?_⟩
  by_cases hjk : j = k + 1
  · subst hjk; rw [map_set_self (by omega), hr]
  · rw [map_set_ne (by omega)]; exact h.up j (by omega) h2
theorem Fil.next' {P : List (List Int)} {k : Nat} {us : List RowV} {r : RowV} (h : Fil P 16 k us) (hl : us.length = 32) (h1 : 1 ≤ k) (hk : k < 16) (hr : r.xs = nodeN P k) : Fil P 16 (k - 1) (us.set k r) := by
  obtain ⟨m, rfl⟩ : ∃ m, k = m + 1 := ⟨k - 1, by omega⟩
  exact h.next hl hk hr
theorem Fil.done {P : List (List Int)} {us : List RowV} (h : Fil P 16 0 us) (hP : P.length = 16) (hl : us.length = 32) : us.map RowV.xs = tabL P := by
  refine tabL_eq (by rw [List.length_map, hl]) ?_ fun k h1 h2 => ?_
  · rw [List.getElem?_map]; exact h.zero
  · rw [List.getElem?_map]; exact h.at_ hP h1 h2
/-- a row that was appended to an empty literal is stored -/
theorem Tab.put {w w2 : World} {T n k ti : Nat} {e : TypeId} {us : List RowV} {A2 : Option Addr} {c2 : Nat} {xs : List Int} (h : Tab w T n e us) (hb : Below w.heap.size w w2)
    (hown : w2.ownsRow w.heap.size ti 1 (.slice A2 (0 + xs.length) c2) (0 + xs.length) ([] ++ xs.map (Value.int .i64))) : Tab (w2.setCell ⟨T, k, none⟩ (.slice A2 xs.length c2)) T n e (us.set k ⟨A2, c2, xs⟩) := by
  rw [Nat.zero_add, List.nil_append] at hown
  obtain ⟨A3, c3, he, _, hI⟩ := Ints.of_own hown
  simp only [Value.slice.injEq, true_and] at he
  obtain ⟨rfl, rfl⟩ := he
  exact h.set_ (t := ⟨A2, c2, xs⟩) hb hI
theorem Tab.set3 {w0 w : World} {T n k : Nat} {e : TypeId} {us : List RowV} {A : Option Addr} {c : Nat} {xs : List Int} (h : Tab w0 T n e us) (hb : Below w0.heap.size w0 w) (hx : xs.length = 3) (ht : Ints w w0.heap.size w.heap.size A c xs) :
    Tab (w.setCell ⟨T, k, none⟩ (.slice A 3 c)) T n e (us.set k ⟨A, c, xs⟩) := by
  have := h.set_ (k := k) (t := ⟨A, c, xs⟩) hb ht
  simpa [rcell, hx] using this
set_option maxHeartbeats 1000000 in
theorem l3Build_any (A : Option Addr) (c : Nat) (rs : List RowV) (w : World) (hR : Rws w 0 w.heap.size A c rs) (hl : rs.length ≤ 16) (hv : ∀ r, r ∈ rs → vecB r.xs = true) :
    Calls Try.prog 48 #[.slice A rs.length c] w (RetX w w.heap.size (padL (rs.map RowV.xs))) := by
  have HR := Lib.hid hR; clear hR
  have HV := Lib.hid hv; clear hv
  obtain ⟨P, hP⟩ : ∃ P, P = padL (rs.map RowV.xs) := ⟨_, rfl⟩
  have hPl : P.length = 16 := by rw [hP]; exact padL_len (by simpa using hl)
  have hPv : ∀ r, r ∈ P → vecB r = true := by
    rw [hP]
    refine padL_vec fun r hr => ?_
    obtain ⟨x, hx, rfl⟩ := List.mem_map.1 hr
    exact HV.out x hx
  have hP1 : ∀ (i : Nat) r, rs[i]? = some r → P[i]? = some r.xs := fun i r hr => by rw [hP]; exact padL_at (by rw [List.getElem?_map, hr]; rfl)
  have hP2 : ∀ i, rs.length ≤ i → i < 16 → P[i]? = some [0, 0, 0] := fun i h1 h2 => by rw [hP]; exact padL_out (by simpa using h1) h2
  rw [← hP]
  have HPL := Lib.hid hPl
  have HPV := Lib.hid hPv
  have HP1 := Lib.hid hP1
  have HP2 := Lib.hid hP2
  clear hP hPl hPv hP1 hP2
  have hmk : ∀ W, (Instr.makeSlice 23 (.int .i64 32) (.int .i64 32)).run Try.prog W = .ok (.slice (some ⟨W.heap.size, 0, none⟩) 32 32) (W.alloc (.cells (madeCells #[Value.slice none 0 0] 32) 28)) := make_rows 32 (by omega)
  have hT1 := tab_made w 32 (by omega)
  have hb2 := alloc_below (w.alloc (.cells (madeCells #[Value.slice none 0 0] 32) 28)) (.cells #[.int .i64 0, .int .i64 0, .int .i64 0] 3)
  obtain ⟨r0, _, hd0, hf0, _⟩ := (hT1.below hb2).at_ (k := 0) (by omega)
  have hT3 := hT1.lit0 (k := 0)
  have hb1 := alloc_below w (.cells (madeCells #[Value.slice none 0 0] 32) 28)
  have hb3 := setCell_below (hb1.trans (hb2.mono hb1.size)) (Nat.le_refl w.heap.size) 0 (.slice (some ⟨w.heap.size + 1, 0, none⟩) 3 3)
  have HT3 := Lib.hid hT3
  have HB3 := Lib.hid hb3
  clear hT1 hb1 hb2 hT3 hb3
  go_enter Try.func48, Try.ntmps48
  go_wp2_with fail
  clear hmk hd0 hf0
  obtain ⟨w1, hw1⟩ : ∃ W, W = ((w.alloc (.cells (madeCells #[Value.slice none 0 0] 32) 28)).alloc (.cells #[.int .i64 0, .int .i64 0, .int .i64 0] 3)).setCell ⟨w.heap.size, 0, none⟩ (.slice (some ⟨w.heap.size + 1, 0, none⟩) 3 3) := ⟨_, rfl⟩
  have hw2 := hw1
  rw [World.setCell_alloc_past _ _ _ _ (by simp), World.setCell_alloc_at _ _ _ _ _ rfl] at hw2
  rw [← hw2]
  clear hw2
  have hT3 : Tab w1 w.heap.size 32 28 ((List.replicate 32 (⟨none, 0, []⟩ : RowV)).set 0 ⟨some ⟨w.heap.size + 1, 0, none⟩, 3, [0, 0, 0]⟩) := by
    rw [hw1]; have := HT3.out; simpa using this
  have hb3 : Below w.heap.size w w1 := by rw [hw1]; exact HB3.out
  replace HT3 := Lib.hid hT3
  replace HB3 := Lib.hid hb3
  clear hT3 hb3 hw1
  go_loopw [4] (fun i wr => ∃ k : Nat, ∃ us : List RowV, k ≤ 16 ∧ i = .int .i64 k ∧ Tab wr w.heap.size 32 28 us ∧ Fil P k 16 us ∧ Below w.heap.size w wr) (fun i _ => 16 - (intOf i).toNat)
  case atStart => exact ⟨0, _, by omega, rfl, HT3.out, ⟨rfl, fun j hj => by omega, fun j h1 h2 => by omega⟩, HB3.out⟩
  case round =>
    clear HT3 HB3
    obtain ⟨k, us, hk, rfl, hT, hF, hB⟩ := hrel
    have HT := Lib.hid hT
    have HF := Lib.hid hF
    have HB := Lib.hid hB
    have hs := hB.size
    have hlt0 := hT.lt
    clear hF hB
    by_cases hlt : k < 16
    · have hb2 := alloc_below wr (.cells #[.int .i64 0, .int .i64 0, .int .i64 0] 3)
      obtain ⟨r0, _, hd0, hf0, _⟩ := (hT.below hb2).at_ (k := 16 + k) (by omega)
      have hT3 := hT.lit0 (k := 16 + k)
      rw [World.setCell_alloc_past _ _ _ _ hT.lt] at hT3
      have HT3 := Lib.hid hT3
      have hki : (k : Int) < 16 := by omega
      have HB3 := Lib.hid ((HB.out.setCell (p := ⟨w.heap.size, 16 + k, none⟩) (Nat.le_refl _) (.slice (some ⟨wr.heap.size, 0, none⟩) 3 3)).alloc (by rw [size_setCell]; exact hs) (.cells #[.int .i64 0, .int .i64 0, .int .i64 0] 3))
      have hul := HT.out.len
      have HUL := Lib.hid hul
      clear hul
      by_cases hkr : k < rs.length
      · have hkri : (k : Int) < rs.length := by omega
        obtain ⟨wA, hwA⟩ : ∃ W, W = (wr.setCell ⟨w.heap.size, 16 + k, none⟩ (.slice (some ⟨wr.heap.size, 0, none⟩) 3 3)).alloc (.cells #[.int .i64 0, .int .i64 0, .int .i64 0] 3) := ⟨_, rfl⟩
        have hsA : wA.heap.size = wr.heap.size + 1 := by rw [hwA]; simp [World.setCell]
        have HTA : Hid (Tab wA w.heap.size 32 28 (us.set (16 + k) ⟨some ⟨wr.heap.size, 0, none⟩, 3, [0, 0, 0]⟩)) := Lib.hid (by rw [hwA]; exact HT3.out)
        have HBA : Hid (Below w.heap.size w wA) := Lib.hid (by rw [hwA]; exact HB3.out)
        have hbE : Below wA.heap.size wA (wA.alloc (.cells #[] 3)) := alloc_below wA _
        have hbW : Below w.heap.size w (wA.alloc (.cells #[] 3)) := HBA.out.trans (hbE.mono (by omega))
        obtain ⟨b, off, r, rfl, hr, hc, _, hbh, hI⟩ := (HR.out.below hbW (Nat.le_refl _)).at_ hkr
        have HO0 : Hid ((wA.alloc (.cells #[] 3)).ownsRow wA.heap.size 3 1 (.slice (some ⟨wr.heap.size + 1, 0, none⟩) 0 0) 0 []) := Lib.hid (by have := ownsRow_empty wA 3 1; rwa [hsA] at this ⊢)
        have HX := Lib.hid (HP1.out k r hr)
        have hrl : r.xs.length = 3 := vec_len (HV.out r (List.mem_of_getElem? hr))
        have HRL := Lib.hid hrl
        have hrl5 : 0 + r.xs.length ≤ 1099511627776 := by omega
        have HIr := Lib.hid hI.r
        have HBE := Lib.hid hbE
        have hs9 : wA.heap.size ≤ (wA.alloc (.cells #[] 3)).heap.size := by simp
        rw [hwA] at hc
        clear hbE hr hrl hI
        go_wp2_with (at_builtin; rw [← hwA]; refine wpList_appI elI rfl (.tmp 26) (.tmp 30) rfl _ HO0.out r.a r.xs.length r.c r.xs rfl rfl rfl HIr.out hs9 hrl5 ?_; intro A2 c2 w2 hown hb2 _; have hb3 := HBE.out.trans hb2; have HTS := Lib.hid (Tab.put (k := 16 + k) HTA.out hb3 hown); obtain ⟨r9, _, hd9, hf9, _⟩ := (HTA.out.below hb3).at_ (k := 16 + k) (by omega); have HB4 := Lib.hid ((HBA.out.trans (hb3.mono (by omega))).setCell (p := ⟨w.heap.size, 16 + k, none⟩) (Nat.le_refl _) (.slice A2 r.xs.length c2)); clear hown hb2 hb3)
        refine ⟨⟨k + 1, _, by omega, by go_num, HTS.out, ?_, HB4.out⟩, by simp [intOf]; omega⟩
        rw [List.set_set]
        exact HF.out.leaf_ HUL.out hlt HX.out
      · have hkri : ¬ ((k : Int) < rs.length) := by omega
        go_wp2_with fail
        exact ⟨⟨k + 1, _, by omega, by go_num, HT3.out, HF.out.leaf_ HUL.out hlt (HP2.out k (by omega) hlt), HB3.out⟩, by simp [intOf]; omega⟩
    · have hk16 : ¬ ((k : Int) < 16) := by omega
      have hF15 : Fil P 16 15 us := ⟨HF.out.zero, fun j hj => HF.out.leaf j (by omega), fun j h1 h2 => by omega⟩
      have HF5 := Lib.hid hF15
      clear hF15 HF
      go_wp2_with fail
      go_loopw [5] (fun i wr => ∃ k : Nat, ∃ us : List RowV, k ≤ 15 ∧ i = .int .i64 k ∧ Tab wr w.heap.size 32 28 us ∧ Fil P 16 k us ∧ Below w.heap.size w wr) (fun i _ => (intOf i).toNat)
      case atStart => exact ⟨15, us, by omega, rfl, HT.out, HF5.out, HB.out⟩
      case round =>
        clear HT HF5 HB hlt0 hs
        obtain ⟨k, us, hk, rfl, hT, hF, hB⟩ := hrel
        have HT := Lib.hid hT
        have HF := Lib.hid hF
        have HB := Lib.hid hB
        have hs := hB.size
        have hlt0 := hT.lt
        have HUL := Lib.hid hT.len
        clear hF hB hT
        by_cases hk1 : 1 ≤ k
        · have hb1 : IntKind.i64.wrap (2 * (k : Int)) = 2 * (k : Int) := wrap_small (by omega)
          have hb2 : IntKind.i64.wrap (2 * (k : Int) + 1) = 2 * (k : Int) + 1 := wrap_small (by omega)
          have hb3 : 2 * (k : Int) + 1 < 32 := by omega
          have hb4 : 2 * (k : Int) < 32 := by omega
          have hb5 : (k : Int) < 32 := by omega
          have hb6 : (0 : Int) ≤ 2 * (k : Int) := by omega
          have hb7 : (0 : Int) ≤ 2 * (k : Int) + 1 := by omega
          have hb8 : (0 : Int) ≤ (k : Int) := by omega
          obtain ⟨r1, hr1, hc1, _, hI1⟩ := HT.out.at_ (k := 2 * k) (by omega)
          obtain ⟨r2, hr2, hc2, _, hI2⟩ := HT.out.at_ (k := 2 * k + 1) (by omega)
          have e1 : r1.xs = nodeN P (2 * k) := by have := HF.out.at_ HPL.out (j := 2 * k) (by omega) (by omega); rw [hr1] at this; simpa using this
          have e2 : r2.xs = nodeN P (2 * k + 1) := by have := HF.out.at_ HPL.out (j := 2 * k + 1) (by omega) (by omega); rw [hr2] at this; simpa using this
          have l1 : r1.xs.length = 3 := by rw [e1]; exact vec_len (node_vec HPL.out HPV.out _ (by omega) (by omega))
          have l2 : r2.xs.length = 3 := by rw [e2]; exact vec_len (node_vec HPL.out HPV.out _ (by omega) (by omega))
          have e3 : maxL r1.xs r2.xs = nodeN P k := by rw [nodeN_up P (by omega) (by omega), e1, e2]
          have hml : (nodeN P k).length = 3 := vec_len (node_vec HPL.out HPV.out _ (by omega) (by omega))
          have h9 := l1Max_any r1.a r2.a r1.c r2.c _ _ _ _ r1.xs r2.xs wr.drew (hI1.drewN 1) (hI2.drewN 1) l1 l2 (Nat.le_refl _) (Nat.le_refl _)
          rw [e3] at h9
          have H9 := Lib.hid h9
          have HML := Lib.hid hml
          have hn1 : 2 * k = (2 * (k : Int)).toNat := by omega
          have hn2 : 2 * k + 1 = (2 * (k : Int) + 1).toNat := by omega
          rw [hn1] at hc1
          rw [hn2] at hc2
          clear hn1 hn2
          have hki : (k : Int) ≤ 15 := by omega
          have hmi : (1 : Int) ≤ (k : Int) := by omega
          clear hr1 hr2 e1 e2 e3 l1 l2 hI1 hI2 h9 hml
          go_wp2_with fail
          go_region_held3 (fun w' => w'.cell? ⟨w.heap.size, (2 * (k : Int)).toNat, none⟩ = some (.slice r1.a r1.xs.length r1.c) ∧ w'.cell? ⟨w.heap.size, (2 * (k : Int) + 1).toNat, none⟩ = some (.slice r2.a r2.xs.length r2.c))
            (first | exact ⟨hc1, hc2⟩ | (refine ⟨?_, ?_⟩ <;> rw [World.cell?_setCell_other _ _ _ _ (by intro h; simp only [Addr.mk.injEq] at h; omega)] <;> assumption))
            (first | (go_at_call 67; (with_reducible refine H9.out.mono ?_); rintro e w4 ⟨A5, c5, rfl, hI5, hb⟩; have hbb := undrewR hb; have HTS := Lib.hid (Tab.set3 (k := k) HT.out hbb HML.out hI5); have hc1 := cell_belowR hbb hlt0 hc1; have hc2 := cell_belowR hbb hlt0 hc2; obtain ⟨r9, _, hd9, hf9, _⟩ := (HT.out.below hbb).at_ (k := k) (by omega); have HB4 := Lib.hid ((HB.out.trans (hbb.mono hs)).setCell (p := ⟨w.heap.size, k, none⟩) (Nat.le_refl _) (.slice A5 3 c5)); clear hb hbb hI5))
          go_wp2_with fail
          go_roundw
          case rel => exact ⟨k - 1, _, by omega, by go_num, HTS.out, HF.out.next' HUL.out hk1 (by omega) rfl, HB4.out⟩
          case measure => simp [intOf]; omega
        · obtain rfl : k = 0 := by omega
          have HE := Lib.hid (HF.out.done HPL.out HUL.out)
          go_wp2_with fail
          go_ret
          exact ⟨by simp, Nat.le_refl _, ⟨us, HE.out, HT.out⟩, HB.out⟩
theorem l3Same_any (A B : Option Addr) (c d lo hi lo' hi' : Nat) (a b : List Int) (w : World) (hA : Ints w lo hi A c a) (hB : Ints w lo' hi' B d b) (hla : a.length ≤ 1048576) (hlb : b.length ≤ 1048576) :
    Calls Try.prog 53 #[.slice A a.length c, .slice B b.length d] w fun e w' => e = .returned (.bool (sameB a b)) ∧ ∃ n, w' = w.drewN n := by
  have HA := Lib.hid hA; clear hA
  have HB := Lib.hid hB; clear hB
  obtain ⟨va, hva⟩ : ∃ v, vecB a = v := ⟨_, rfl⟩
  obtain ⟨vb, hvb⟩ : ∃ v, vecB b = v := ⟨_, rfl⟩
  obtain ⟨f1, hf1⟩ : ∃ v, fitsB a b = v := ⟨_, rfl⟩
  obtain ⟨f2, hf2⟩ : ∃ v, fitsB b a = v := ⟨_, rfl⟩
  have HE : Hid (sameB a b = (va && vb && f1 && f2)) := Lib.hid (by simp only [sameB, hva, hvb, hf1, hf2])
  have HVA := Lib.hid hva; clear hva
  have HVB := Lib.hid hvb; clear hvb
  have HF1 := Lib.hid hf1; clear hf1
  have HF2 := Lib.hid hf2; clear hf2
  cases va
  · go_enter Try.func53, Try.ntmps53
    go_wp2_with fail
    refine (vecValidS_any _ _ _ _ a w HA.out hla).mono ?_; rintro e w' ⟨rfl, rfl⟩
    rw [HVA.out]
    go_wp2_with fail
    go_ret
    exact ⟨by simp [HE.out], 0, rfl⟩
  cases vb
  · go_enter Try.func53, Try.ntmps53
    go_wp2_with fail
    refine (vecValidS_any _ _ _ _ a w HA.out hla).mono ?_; rintro e w' ⟨rfl, rfl⟩
    rw [HVA.out]
    go_wp2_with fail
    refine (vecValidS_any _ _ _ _ b w HB.out hlb).mono ?_; rintro e w' ⟨rfl, rfl⟩
    rw [HVB.out]
    go_wp2_with fail
    go_ret
    exact ⟨by simp [HE.out], 0, rfl⟩
  cases f1
  · go_enter Try.func53, Try.ntmps53
    go_wp2_with fail
    refine (vecValidS_any _ _ _ _ a w HA.out hla).mono ?_; rintro e w' ⟨rfl, rfl⟩
    rw [HVA.out]
    go_wp2_with fail
    refine (vecValidS_any _ _ _ _ b w HB.out hlb).mono ?_; rintro e w' ⟨rfl, rfl⟩
    rw [HVB.out]
    go_wp2_with fail
    refine (l1Fits_any _ _ _ _ _ _ _ _ a b w HA.out HB.out (vec_len HVA.out) (vec_len HVB.out)).mono ?_; rintro e w' ⟨rfl, n, rfl⟩
    rw [HF1.out]
    go_wp2_with fail
    go_ret
    exact ⟨by simp [HE.out], n, rfl⟩
  · go_enter Try.func53, Try.ntmps53
    go_wp2_with fail
    refine (vecValidS_any _ _ _ _ a w HA.out hla).mono ?_; rintro e w' ⟨rfl, rfl⟩
    rw [HVA.out]
    go_wp2_with fail
    refine (vecValidS_any _ _ _ _ b w HB.out hlb).mono ?_; rintro e w' ⟨rfl, rfl⟩
    rw [HVB.out]
    go_wp2_with fail
    refine (l1Fits_any _ _ _ _ _ _ _ _ a b w HA.out HB.out (vec_len HVA.out) (vec_len HVB.out)).mono ?_; rintro e w' ⟨rfl, n, rfl⟩
    rw [HF1.out]
    go_wp2_with fail
    refine (l1Fits_any _ _ _ _ _ _ _ _ b a _ (HB.out.drewN n) (HA.out.drewN n) (vec_len HVB.out) (vec_len HVA.out)).mono ?_; rintro e w' ⟨rfl, n2, rfl⟩
    rw [HF2.out]
    go_wp2_with fail
    go_ret
    exact ⟨by simp [HE.out], n + n2, by simp [World.drewN]⟩
end Go.Proofs.Ytpjipofkpikipaa
