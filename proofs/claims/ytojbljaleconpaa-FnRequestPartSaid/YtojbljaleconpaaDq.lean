/- The generator of a request: l92Request, DrawRequestValid. No condition but on sizes. -/
import Derived.Test.YtojbljaleconpaaDt
import Derived.Test.YtojbljaleconpaaDd
namespace Go.Proofs.Ytojbljaleconpaa
open Go.RowKit
/-- what the generator of a request leaves -/
def DrewQ (w : World) (g : Nat) (e : Ending) (w' : World) : Prop :=
  ∃ kind id : Int, ∃ A c, ∃ ys : List Int, ∃ gr : Bool, ∃ num : Int, e = .returned (.agg #[.int .i64 kind, .int .i64 id, .slice A ys.length c, .bool gr, .int .i64 num]) ∧ Ints w' w.heap.size w'.heap.size A c ys ∧ ys.length ≤ 3 ∧ Only g (g + 1) w w'
/-- the state while it is drawn: block L + 2 holds the request, block L the result's cell -/
structure QS (ti : TypeId) (w w' : World) (g p : Nat) (kind id : Int) (A : Option Addr) (c : Nat) (ys : List Int) (gr : Bool) (num : Int) : Prop where
  q : Blk w' (w.heap.size + 2) ti [.int .i64 kind, .int .i64 id, .slice A ys.length c, .bool gr, .int .i64 num]
  z : Blk w' w.heap.size ti [.int .i64 0, .int .i64 0, .slice none 0 0, .bool false, .int .i64 0]
  i : Ints w' (w.heap.size + 3) w'.heap.size A c ys
  l : ys.length ≤ 3
  r : Rd w' g p
  o : Only g (g + 1) w w'
  g : g < w.heap.size
  h : w.heap.size + 3 ≤ w'.heap.size
section
variable {ti : TypeId} {w w' w'' : World} {g p p2 : Nat} {kind id : Int} {A : Option Addr} {c : Nat} {ys : List Int} {gr : Bool} {num : Int}
theorem QS.pick (s : QS ti w w' g p kind id A c ys gr num) (o : Only g (g + 1) w' w'') (r : Rd w'' g p2) : QS ti w w'' g p2 kind id A c ys gr num :=
  ⟨s.q.only o (.inr (by have := s.g; omega)), s.z.only o (.inr s.g), (s.i.only o (.inr (by have := s.g; omega)) (Nat.le_refl _)).mono (Nat.le_refl _) o.size, s.l, r, s.o.trans o, s.g, Nat.le_trans s.h o.size⟩
theorem QS.made (s : QS ti w w' g p kind id A c ys gr num) (o : Below w'.heap.size w' w'') : QS ti w w'' g p kind id A c ys gr num :=
  s.pick (Only.of_below o) (s.r.below o s.r.lt)
theorem QS.set_ (s : QS ti w w' g p kind id A c ys gr num) (k : Nat) (v : Value) {kind2 id2 : Int} {A2 : Option Addr} {c2 : Nat} {ys2 : List Int} {gr2 : Bool} {num2 : Int}
    (hv : ([.int .i64 kind, .int .i64 id, .slice A ys.length c, .bool gr, .int .i64 num] : List Value).set k v = [.int .i64 kind2, .int .i64 id2, .slice A2 ys2.length c2, .bool gr2, .int .i64 num2]) (hi : Ints w' (w.heap.size + 3) w'.heap.size A2 c2 ys2) (hl : ys2.length ≤ 3) :
    QS ti w (w'.setCell ⟨w.heap.size + 2, k, none⟩ v) g p kind2 id2 A2 c2 ys2 gr2 num2 := by
  have ho : Only (w.heap.size + 2) (w.heap.size + 3) w' (w'.setCell ⟨w.heap.size + 2, k, none⟩ v) := (Only.refl _ _ _).setCell (p := ⟨w.heap.size + 2, k, none⟩) (Nat.le_refl _) (by simp) v
  have hb : Below w.heap.size w' (w'.setCell ⟨w.heap.size + 2, k, none⟩ v) := (Below.refl _ _).setCell (p := ⟨w.heap.size + 2, k, none⟩) (by simp) v
  have hz : (w'.setCell ⟨w.heap.size + 2, k, none⟩ v).heap.size = w'.heap.size := by simp [World.setCell]
  refine ⟨?_, s.z.only ho (.inl (by omega)), ?_, hl, s.r.below hb s.g, s.o.then_below hb, s.g, by rw [hz]; exact s.h⟩
  · rw [← hv]; exact s.q.set_ k v
  · rw [hz]; exact hi.only ho (.inr (Nat.le_refl _)) (Nat.le_refl _)
theorem QS.set2 (s : QS ti w w' g p kind id A c ys gr num) (id2 : Int) {A2 : Option Addr} {c2 : Nat} {ys2 : List Int} (hi : Ints w' (w.heap.size + 3) w'.heap.size A2 c2 ys2) (hl : ys2.length ≤ 3) :
    QS ti w ((w'.setCell ⟨w.heap.size + 2, 1, none⟩ (.int .i64 id2)).setCell ⟨w.heap.size + 2, 2, none⟩ (.slice A2 ys2.length c2)) g p kind id2 A2 c2 ys2 gr num := by
  have s1 := s.set_ 1 (.int .i64 id2) (kind2 := kind) (id2 := id2) (A2 := A) (c2 := c) (ys2 := ys) (gr2 := gr) (num2 := num) rfl s.i s.l
  have ho : Only (w.heap.size + 2) (w.heap.size + 3) w' (w'.setCell ⟨w.heap.size + 2, 1, none⟩ (.int .i64 id2)) := (Only.refl _ _ _).setCell (p := ⟨w.heap.size + 2, 1, none⟩) (Nat.le_refl _) (by simp) _
  have hz : (w'.setCell ⟨w.heap.size + 2, 1, none⟩ (.int .i64 id2)).heap.size = w'.heap.size := by simp [World.setCell]
  exact s1.set_ 2 (.slice A2 ys2.length c2) rfl (by rw [hz]; exact hi.only ho (.inr (Nat.le_refl _)) (Nat.le_refl _)) hl
/-- the result's cell is filled -/
theorem QS.fin (s : QS ti w w' g p kind id A c ys gr num) {wf : World} (hwf : wf = ((((w'.setCell ⟨w.heap.size, 0, none⟩ (.int .i64 kind)).setCell ⟨w.heap.size, 1, none⟩ (.int .i64 id)).setCell ⟨w.heap.size, 2, none⟩ (.slice A ys.length c)).setCell ⟨w.heap.size, 3, none⟩ (.bool gr)).setCell ⟨w.heap.size, 4, none⟩ (.int .i64 num)) :
    Blk wf w.heap.size ti [.int .i64 kind, .int .i64 id, .slice A ys.length c, .bool gr, .int .i64 num] ∧ DrewQ w g (.returned (.agg #[.int .i64 kind, .int .i64 id, .slice A ys.length c, .bool gr, .int .i64 num])) wf := by
  have hP : Blk wf w.heap.size ti [.int .i64 kind, .int .i64 id, .slice A ys.length c, .bool gr, .int .i64 num] := by
    rw [hwf]
    exact ((((s.z.set_ 0 (.int .i64 kind)).set_ 1 (.int .i64 id)).set_ 2 (.slice A ys.length c)).set_ 3 (.bool gr)).set_ 4 (.int .i64 num)
  have ho : Only w.heap.size (w.heap.size + 1) w' wf := by
    rw [hwf]
    exact (((((Only.refl _ _ _).setCell (p := ⟨w.heap.size, 0, none⟩) (Nat.le_refl _) (by simp) _).setCell (p := ⟨w.heap.size, 1, none⟩) (Nat.le_refl _) (by simp) _).setCell (p := ⟨w.heap.size, 2, none⟩) (Nat.le_refl _) (by simp) _).setCell (p := ⟨w.heap.size, 3, none⟩) (Nat.le_refl _) (by simp) _).setCell (p := ⟨w.heap.size, 4, none⟩) (Nat.le_refl _) (by simp) _
  have hs := ho.size
  exact ⟨hP, kind, id, A, c, ys, gr, num, rfl, (s.i.only ho (.inr (by omega)) (Nat.le_refl _)).mono (by omega) hs, s.l, s.o.then_below (ho.below (Nat.le_refl _) (by have := s.h; omega))⟩
end
theorem lit5_val {i : Nat} (hi : i < 5) : ∃ u : Int, ([.int .i64 (-1), .int .i64 10, .int .i64 20, .int .i64 21, .int .i64 41] : List Value)[i]? = some (.int .i64 u) := by
  have : i = 0 ∨ i = 1 ∨ i = 2 ∨ i = 3 ∨ i = 4 := by omega
  rcases this with rfl | rfl | rfl | rfl | rfl
  · exact ⟨-1, rfl⟩
  · exact ⟨10, rfl⟩
  · exact ⟨20, rfl⟩
  · exact ⟨21, rfl⟩
  · exact ⟨41, rfl⟩
set_option maxHeartbeats 16000000 in
theorem l92Request_any (g p : Nat) (w : World) (hR : Rd w g p) (hp : p ≤ 800000) :
    Calls Try.prog 60 #[.pointer (some ⟨g, 0, none⟩)] w (DrewQ w g) := by
  have HR := Lib.hid hR; clear hR
  have hg0 : g < w.heap.size := HR.out.lt
  obtain ⟨w1, hw1⟩ : ∃ W, W = ((w.alloc (.cells #[.int .i64 0, .int .i64 0, .slice none 0 0, .bool false, .int .i64 0] 46)).alloc (.cells #[] 3)).alloc (.cells #[.int .i64 1, .int .i64 0, .slice (some ⟨w.heap.size + 1, 0, none⟩) 0 0, .bool false, .int .i64 0] 46) := ⟨_, rfl⟩
  have HW1 := Lib.hid hw1
  have hb1 : Below w.heap.size w w1 := by rw [hw1]; exact (((Below.refl _ _).alloc (Nat.le_refl _) _).alloc (by simp) _).alloc (by simp; omega) _
  have hs1 : w.heap.size + 3 ≤ w1.heap.size := by rw [hw1]; simp
  have hz1 : Blk w1 w.heap.size 46 [.int .i64 0, .int .i64 0, .slice none 0 0, .bool false, .int .i64 0] := by
    rw [hw1]; exact ((Blk.new w 46 [.int .i64 0, .int .i64 0, .slice none 0 0, .bool false, .int .i64 0]).alloc _).alloc _
  have hq1 : Blk w1 (w.heap.size + 2) 46 [.int .i64 1, .int .i64 0, .slice (some ⟨w.heap.size + 1, 0, none⟩) ([] : List Int).length 0, .bool false, .int .i64 0] := by
    rw [hw1]
    have := Blk.new ((w.alloc (.cells #[.int .i64 0, .int .i64 0, .slice none 0 0, .bool false, .int .i64 0] 46)).alloc (.cells #[] 3)) 46 [.int .i64 1, .int .i64 0, .slice (some ⟨w.heap.size + 1, 0, none⟩) 0 0, .bool false, .int .i64 0]
    simp only [World.size_alloc] at this
    exact this
  have HS : Hid (QS 46 w w1 g p 1 0 (some ⟨w.heap.size + 1, 0, none⟩) 0 [] false 0) := Lib.hid ⟨hq1, hz1, ⟨by simp, by simp [maxLen], .inl rfl⟩, by simp, HR.out.below hb1 hg0, Only.of_below hb1, hg0, hs1⟩
  clear hb1 hs1 hz1 hq1 hw1 HR
  go_enter Try.func60, Try.ntmps60
  go_wp2_with fail
  rw [← HW1.out]
  refine (pick_any g p 8 w1 HS.out.r (by omega) (by omega)).mono ?_; rintro e w2 ⟨x, rfl, hx0, hx1, hR, hO, hs⟩
  replace HS := Lib.hid (HS.out.pick hO hR)
  clear hR hO hs
  by_cases hx : x = 0
  · subst hx
    have q0 := HS.out.q.cell (i := 0) rfl
    have f0 := HS.out.q.frozen 0
    go_wp2_with fail
    obtain ⟨w3, hw⟩ : ∃ W, W = w2.setCell ⟨w.heap.size + 2, 0, none⟩ (.int .i64 2) := ⟨_, rfl⟩
    rw [← hw]
    replace HS : Hid (QS 46 w w3 g _ 2 0 (some ⟨w.heap.size + 1, 0, none⟩) 0 [] false 0) := Lib.hid (by rw [hw]; exact HS.out.set_ 0 (.int .i64 2) rfl HS.out.i HS.out.l)
    clear hw
    clear q0 f0
    refine (pick_any g (p + 1) 14 w3 HS.out.r (by omega) (by omega)).mono ?_; rintro e w4 ⟨y, rfl, hy0, hy1, hR, hO, hs⟩
    replace HS := Lib.hid (HS.out.pick hO hR)
    clear hR hO hs
    have hyw : IntKind.i64.wrap (1 + y) = 1 + y := wrap_small (by omega)
    obtain ⟨ny, hny⟩ : ∃ z : Int, 1 + y = z := ⟨_, rfl⟩
    rw [hny] at hyw
    have q4 := HS.out.q.cell (i := 4) rfl
    have f4 := HS.out.q.frozen 4
    go_wp2_with fail
    obtain ⟨w5, hw⟩ : ∃ W, W = w4.setCell ⟨w.heap.size + 2, 4, none⟩ (.int .i64 ny) := ⟨_, rfl⟩
    rw [← hw]
    replace HS : Hid (QS 46 w w5 g _ 2 0 (some ⟨w.heap.size + 1, 0, none⟩) 0 [] false ny) := Lib.hid (by rw [hw]; exact HS.out.set_ 4 (.int .i64 ny) rfl HS.out.i HS.out.l)
    clear hw
    clear q4 f4
    refine (pick_any g (p + 1 + 1) 40 w5 HS.out.r (by omega) (by omega)).mono ?_; rintro e wa ⟨t, rfl, ht0, ht1, hR, hO, hs⟩
    replace HS := Lib.hid (HS.out.pick hO hR)
    clear hR hO hs
    by_cases ht : t = 0
    · subst ht
      have hbl : Below wa.heap.size wa (wa.alloc (.cells #[.int .i64 (-1), .int .i64 10, .int .i64 20, .int .i64 21, .int .i64 41] 3)) := (Below.refl _ _).alloc (Nat.le_refl _) _
      have HL : Hid (Blk (wa.alloc (.cells #[.int .i64 (-1), .int .i64 10, .int .i64 20, .int .i64 21, .int .i64 41] 3)) wa.heap.size 3 [.int .i64 (-1), .int .i64 10, .int .i64 20, .int .i64 21, .int .i64 41]) := Lib.hid (Blk.new wa _ [.int .i64 (-1), .int .i64 10, .int .i64 20, .int .i64 21, .int .i64 41])
      have hga : g < wa.heap.size := by have := HS.out.g; have := HS.out.h; omega
      have hgb : w.heap.size + 3 ≤ wa.heap.size := HS.out.h
      replace HS := Lib.hid (HS.out.made hbl)
      clear hbl
      go_wp2_with fail
      refine (pick_any g (p + 1 + 1 + 1) 5 _ HS.out.r (by omega) (by omega)).mono ?_; rintro e wb ⟨j0, rfl, hj0, hj1, hR, hO, hs⟩
      replace HS := Lib.hid (HS.out.pick hO hR)
      replace HL := Lib.hid (HL.out.only hO (.inr (by omega)))
      clear hR hO hs
      obtain ⟨j, rfl⟩ := Int.eq_ofNat_of_zero_le hj0
      have hj5 : j < 5 := by omega
      obtain ⟨u, hu⟩ := lit5_val hj5
      have hlc := HL.out.cell hu
      have q0 := HS.out.q.cell (i := 0) rfl
      have q1 := HS.out.q.cell (i := 1) rfl
      have q2 := HS.out.q.cell (i := 2) rfl
      have q3 := HS.out.q.cell (i := 3) rfl
      have q4 := HS.out.q.cell (i := 4) rfl
      have f0 := HS.out.q.frozen 0
      have f1 := HS.out.q.frozen 1
      have f2 := HS.out.q.frozen 2
      have f3 := HS.out.q.frozen 3
      have f4 := HS.out.q.frozen 4
      have z0 := HS.out.z.cell (i := 0) rfl
      have z1 := HS.out.z.cell (i := 1) rfl
      have z2 := HS.out.z.cell (i := 2) rfl
      have z3 := HS.out.z.cell (i := 3) rfl
      have z4 := HS.out.z.cell (i := 4) rfl
      have y0 := HS.out.z.frozen 0
      have y1 := HS.out.z.frozen 1
      have y2 := HS.out.z.frozen 2
      have y3 := HS.out.z.frozen 3
      have y4 := HS.out.z.frozen 4
      go_wp2_with fail
      obtain ⟨wf, hwf⟩ : ∃ W, W = (((((wb.setCell ⟨w.heap.size + 2, 4, none⟩ (.int .i64 u)).setCell ⟨w.heap.size, 0, none⟩ (.int .i64 2)).setCell ⟨w.heap.size, 1, none⟩ (.int .i64 0)).setCell ⟨w.heap.size, 2, none⟩ (.slice (some ⟨w.heap.size + 1, 0, none⟩) 0 0)).setCell ⟨w.heap.size, 3, none⟩ (.bool false)).setCell ⟨w.heap.size, 4, none⟩ (.int .i64 u) := ⟨_, rfl⟩
      rw [← hwf]
      obtain ⟨hP, hD⟩ := (HS.out.set_ 4 (.int .i64 u) (kind2 := 2) (id2 := 0) (A2 := (some ⟨w.heap.size + 1, 0, none⟩)) (c2 := 0) (ys2 := []) (gr2 := false) (num2 := u) rfl HS.out.i HS.out.l).fin hwf
      have r0 := hP.cell (i := 0) rfl
      have r1 := hP.cell (i := 1) rfl
      have r2 := hP.cell (i := 2) rfl
      have r3 := hP.cell (i := 3) rfl
      have r4 := hP.cell (i := 4) rfl
      exact bodyPost_ret (v := .agg #[.int .i64 2, .int .i64 0, .slice (some ⟨w.heap.size + 1, 0, none⟩) 0 0, .bool false, .int .i64 u]) (by simp [results, Try.results60, go_sem, r0, r1, r2, r3, r4]) rfl hD
    have htb : (t == 0) = false := by simpa using ht
    by_cases ht1 : t = 1
    · subst ht1
      go_wp2_with fail
      refine (pick_any g (p + 1 + 1 + 1) 7 wa HS.out.r (by omega) (by omega)).mono ?_; rintro e wb ⟨v, rfl, hv0, hv1, hR, hO, hs⟩
      replace HS := Lib.hid (HS.out.pick hO hR)
      clear hR hO hs
      have q0 := HS.out.q.cell (i := 0) rfl
      have q1 := HS.out.q.cell (i := 1) rfl
      have q2 := HS.out.q.cell (i := 2) rfl
      have q3 := HS.out.q.cell (i := 3) rfl
      have q4 := HS.out.q.cell (i := 4) rfl
      have f0 := HS.out.q.frozen 0
      have f1 := HS.out.q.frozen 1
      have f2 := HS.out.q.frozen 2
      have f3 := HS.out.q.frozen 3
      have f4 := HS.out.q.frozen 4
      have z0 := HS.out.z.cell (i := 0) rfl
      have z1 := HS.out.z.cell (i := 1) rfl
      have z2 := HS.out.z.cell (i := 2) rfl
      have z3 := HS.out.z.cell (i := 3) rfl
      have z4 := HS.out.z.cell (i := 4) rfl
      have y0 := HS.out.z.frozen 0
      have y1 := HS.out.z.frozen 1
      have y2 := HS.out.z.frozen 2
      have y3 := HS.out.z.frozen 3
      have y4 := HS.out.z.frozen 4
      go_wp2_with fail
      obtain ⟨wf, hwf⟩ : ∃ W, W = (((((wb.setCell ⟨w.heap.size + 2, 0, none⟩ (.int .i64 v)).setCell ⟨w.heap.size, 0, none⟩ (.int .i64 v)).setCell ⟨w.heap.size, 1, none⟩ (.int .i64 0)).setCell ⟨w.heap.size, 2, none⟩ (.slice (some ⟨w.heap.size + 1, 0, none⟩) 0 0)).setCell ⟨w.heap.size, 3, none⟩ (.bool false)).setCell ⟨w.heap.size, 4, none⟩ (.int .i64 ny) := ⟨_, rfl⟩
      rw [← hwf]
      obtain ⟨hP, hD⟩ := (HS.out.set_ 0 (.int .i64 v) (kind2 := v) (id2 := 0) (A2 := (some ⟨w.heap.size + 1, 0, none⟩)) (c2 := 0) (ys2 := []) (gr2 := false) (num2 := ny) rfl HS.out.i HS.out.l).fin hwf
      have r0 := hP.cell (i := 0) rfl
      have r1 := hP.cell (i := 1) rfl
      have r2 := hP.cell (i := 2) rfl
      have r3 := hP.cell (i := 3) rfl
      have r4 := hP.cell (i := 4) rfl
      exact bodyPost_ret (v := .agg #[.int .i64 v, .int .i64 0, .slice (some ⟨w.heap.size + 1, 0, none⟩) 0 0, .bool false, .int .i64 ny]) (by simp [results, Try.results60, go_sem, r0, r1, r2, r3, r4]) rfl hD
    have htb1 : (t == 1) = false := by simpa using ht1
    by_cases ht2 : t = 2
    · subst ht2
      obtain ⟨gx, hgx⟩ : ∃ b, (!false) = b := ⟨_, rfl⟩
      have q0 := HS.out.q.cell (i := 0) rfl
      have q1 := HS.out.q.cell (i := 1) rfl
      have q2 := HS.out.q.cell (i := 2) rfl
      have q3 := HS.out.q.cell (i := 3) rfl
      have q4 := HS.out.q.cell (i := 4) rfl
      have f0 := HS.out.q.frozen 0
      have f1 := HS.out.q.frozen 1
      have f2 := HS.out.q.frozen 2
      have f3 := HS.out.q.frozen 3
      have f4 := HS.out.q.frozen 4
      have z0 := HS.out.z.cell (i := 0) rfl
      have z1 := HS.out.z.cell (i := 1) rfl
      have z2 := HS.out.z.cell (i := 2) rfl
      have z3 := HS.out.z.cell (i := 3) rfl
      have z4 := HS.out.z.cell (i := 4) rfl
      have y0 := HS.out.z.frozen 0
      have y1 := HS.out.z.frozen 1
      have y2 := HS.out.z.frozen 2
      have y3 := HS.out.z.frozen 3
      have y4 := HS.out.z.frozen 4
      go_wp2_with fail
      obtain ⟨wf, hwf⟩ : ∃ W, W = (((((wa.setCell ⟨w.heap.size + 2, 3, none⟩ (.bool gx)).setCell ⟨w.heap.size, 0, none⟩ (.int .i64 2)).setCell ⟨w.heap.size, 1, none⟩ (.int .i64 0)).setCell ⟨w.heap.size, 2, none⟩ (.slice (some ⟨w.heap.size + 1, 0, none⟩) 0 0)).setCell ⟨w.heap.size, 3, none⟩ (.bool gx)).setCell ⟨w.heap.size, 4, none⟩ (.int .i64 ny) := ⟨_, rfl⟩
      rw [← hwf]
      obtain ⟨hP, hD⟩ := (HS.out.set_ 3 (.bool gx) (kind2 := 2) (id2 := 0) (A2 := (some ⟨w.heap.size + 1, 0, none⟩)) (c2 := 0) (ys2 := []) (gr2 := gx) (num2 := ny) rfl HS.out.i HS.out.l).fin hwf
      have r0 := hP.cell (i := 0) rfl
      have r1 := hP.cell (i := 1) rfl
      have r2 := hP.cell (i := 2) rfl
      have r3 := hP.cell (i := 3) rfl
      have r4 := hP.cell (i := 4) rfl
      exact bodyPost_ret (v := .agg #[.int .i64 2, .int .i64 0, .slice (some ⟨w.heap.size + 1, 0, none⟩) 0 0, .bool gx, .int .i64 ny]) (by simp [results, Try.results60, go_sem, r0, r1, r2, r3, r4]) rfl hD
    have htb2 : (t == 2) = false := by simpa using ht2
    have q0 := HS.out.q.cell (i := 0) rfl
    have q1 := HS.out.q.cell (i := 1) rfl
    have q2 := HS.out.q.cell (i := 2) rfl
    have q3 := HS.out.q.cell (i := 3) rfl
    have q4 := HS.out.q.cell (i := 4) rfl
    have f0 := HS.out.q.frozen 0
    have f1 := HS.out.q.frozen 1
    have f2 := HS.out.q.frozen 2
    have f3 := HS.out.q.frozen 3
    have f4 := HS.out.q.frozen 4
    have z0 := HS.out.z.cell (i := 0) rfl
    have z1 := HS.out.z.cell (i := 1) rfl
    have z2 := HS.out.z.cell (i := 2) rfl
    have z3 := HS.out.z.cell (i := 3) rfl
    have z4 := HS.out.z.cell (i := 4) rfl
    have y0 := HS.out.z.frozen 0
    have y1 := HS.out.z.frozen 1
    have y2 := HS.out.z.frozen 2
    have y3 := HS.out.z.frozen 3
    have y4 := HS.out.z.frozen 4
    go_wp2_with fail
    obtain ⟨wf, hwf⟩ : ∃ W, W = ((((wa.setCell ⟨w.heap.size, 0, none⟩ (.int .i64 2)).setCell ⟨w.heap.size, 1, none⟩ (.int .i64 0)).setCell ⟨w.heap.size, 2, none⟩ (.slice (some ⟨w.heap.size + 1, 0, none⟩) 0 0)).setCell ⟨w.heap.size, 3, none⟩ (.bool false)).setCell ⟨w.heap.size, 4, none⟩ (.int .i64 ny) := ⟨_, rfl⟩
    rw [← hwf]
    obtain ⟨hP, hD⟩ := HS.out.fin hwf
    have r0 := hP.cell (i := 0) rfl
    have r1 := hP.cell (i := 1) rfl
    have r2 := hP.cell (i := 2) rfl
    have r3 := hP.cell (i := 3) rfl
    have r4 := hP.cell (i := 4) rfl
    exact bodyPost_ret (v := .agg #[.int .i64 2, .int .i64 0, .slice (some ⟨w.heap.size + 1, 0, none⟩) 0 0, .bool false, .int .i64 ny]) (by simp [results, Try.results60, go_sem, r0, r1, r2, r3, r4]) rfl hD
  have hx0 : (x == 0) = false := by simpa using hx
  clear hx
  by_cases hx : x = 1
  · subst hx
    have q0 := HS.out.q.cell (i := 0) rfl
    have f0 := HS.out.q.frozen 0
    go_wp2_with fail
    obtain ⟨w3, hw⟩ : ∃ W, W = w2.setCell ⟨w.heap.size + 2, 0, none⟩ (.int .i64 3) := ⟨_, rfl⟩
    rw [← hw]
    replace HS : Hid (QS 46 w w3 g _ 3 0 (some ⟨w.heap.size + 1, 0, none⟩) 0 [] false 0) := Lib.hid (by rw [hw]; exact HS.out.set_ 0 (.int .i64 3) rfl HS.out.i HS.out.l)
    clear hw
    clear q0 f0
    refine (pick_any g (p + 1) 7 w3 HS.out.r (by omega) (by omega)).mono ?_; rintro e w4 ⟨y, rfl, hy0, hy1, hR, hO, hs⟩
    replace HS := Lib.hid (HS.out.pick hO hR)
    clear hR hO hs
    have q4 := HS.out.q.cell (i := 4) rfl
    have f4 := HS.out.q.frozen 4
    go_wp2_with fail
    obtain ⟨w5, hw⟩ : ∃ W, W = w4.setCell ⟨w.heap.size + 2, 4, none⟩ (.int .i64 y) := ⟨_, rfl⟩
    rw [← hw]
    replace HS : Hid (QS 46 w w5 g _ 3 0 (some ⟨w.heap.size + 1, 0, none⟩) 0 [] false y) := Lib.hid (by rw [hw]; exact HS.out.set_ 4 (.int .i64 y) rfl HS.out.i HS.out.l)
    clear hw
    clear q4 f4
    refine (pick_any g (p + 1 + 1) 40 w5 HS.out.r (by omega) (by omega)).mono ?_; rintro e wa ⟨t, rfl, ht0, ht1, hR, hO, hs⟩
    replace HS := Lib.hid (HS.out.pick hO hR)
    clear hR hO hs
    by_cases ht : t = 0
    · subst ht
      have hbl : Below wa.heap.size wa (wa.alloc (.cells #[.int .i64 (-1), .int .i64 10, .int .i64 20, .int .i64 21, .int .i64 41] 3)) := (Below.refl _ _).alloc (Nat.le_refl _) _
      have HL : Hid (Blk (wa.alloc (.cells #[.int .i64 (-1), .int .i64 10, .int .i64 20, .int .i64 21, .int .i64 41] 3)) wa.heap.size 3 [.int .i64 (-1), .int .i64 10, .int .i64 20, .int .i64 21, .int .i64 41]) := Lib.hid (Blk.new wa _ [.int .i64 (-1), .int .i64 10, .int .i64 20, .int .i64 21, .int .i64 41])
      have hga : g < wa.heap.size := by have := HS.out.g; have := HS.out.h; omega
      have hgb : w.heap.size + 3 ≤ wa.heap.size := HS.out.h
      replace HS := Lib.hid (HS.out.made hbl)
      clear hbl
      go_wp2_with fail
      refine (pick_any g (p + 1 + 1 + 1) 5 _ HS.out.r (by omega) (by omega)).mono ?_; rintro e wb ⟨j0, rfl, hj0, hj1, hR, hO, hs⟩
      replace HS := Lib.hid (HS.out.pick hO hR)
      replace HL := Lib.hid (HL.out.only hO (.inr (by omega)))
      clear hR hO hs
      obtain ⟨j, rfl⟩ := Int.eq_ofNat_of_zero_le hj0
      have hj5 : j < 5 := by omega
      obtain ⟨u, hu⟩ := lit5_val hj5
      have hlc := HL.out.cell hu
      have q0 := HS.out.q.cell (i := 0) rfl
      have q1 := HS.out.q.cell (i := 1) rfl
      have q2 := HS.out.q.cell (i := 2) rfl
      have q3 := HS.out.q.cell (i := 3) rfl
      have q4 := HS.out.q.cell (i := 4) rfl
      have f0 := HS.out.q.frozen 0
      have f1 := HS.out.q.frozen 1
      have f2 := HS.out.q.frozen 2
      have f3 := HS.out.q.frozen 3
      have f4 := HS.out.q.frozen 4
      have z0 := HS.out.z.cell (i := 0) rfl
      have z1 := HS.out.z.cell (i := 1) rfl
      have z2 := HS.out.z.cell (i := 2) rfl
      have z3 := HS.out.z.cell (i := 3) rfl
      have z4 := HS.out.z.cell (i := 4) rfl
      have y0 := HS.out.z.frozen 0
      have y1 := HS.out.z.frozen 1
      have y2 := HS.out.z.frozen 2
      have y3 := HS.out.z.frozen 3
      have y4 := HS.out.z.frozen 4
      go_wp2_with fail
      obtain ⟨wf, hwf⟩ : ∃ W, W = (((((wb.setCell ⟨w.heap.size + 2, 4, none⟩ (.int .i64 u)).setCell ⟨w.heap.size, 0, none⟩ (.int .i64 3)).setCell ⟨w.heap.size, 1, none⟩ (.int .i64 0)).setCell ⟨w.heap.size, 2, none⟩ (.slice (some ⟨w.heap.size + 1, 0, none⟩) 0 0)).setCell ⟨w.heap.size, 3, none⟩ (.bool false)).setCell ⟨w.heap.size, 4, none⟩ (.int .i64 u) := ⟨_, rfl⟩
      rw [← hwf]
      obtain ⟨hP, hD⟩ := (HS.out.set_ 4 (.int .i64 u) (kind2 := 3) (id2 := 0) (A2 := (some ⟨w.heap.size + 1, 0, none⟩)) (c2 := 0) (ys2 := []) (gr2 := false) (num2 := u) rfl HS.out.i HS.out.l).fin hwf
      have r0 := hP.cell (i := 0) rfl
      have r1 := hP.cell (i := 1) rfl
      have r2 := hP.cell (i := 2) rfl
      have r3 := hP.cell (i := 3) rfl
      have r4 := hP.cell (i := 4) rfl
      exact bodyPost_ret (v := .agg #[.int .i64 3, .int .i64 0, .slice (some ⟨w.heap.size + 1, 0, none⟩) 0 0, .bool false, .int .i64 u]) (by simp [results, Try.results60, go_sem, r0, r1, r2, r3, r4]) rfl hD
    have htb : (t == 0) = false := by simpa using ht
    by_cases ht1 : t = 1
    · subst ht1
      go_wp2_with fail
      refine (pick_any g (p + 1 + 1 + 1) 7 wa HS.out.r (by omega) (by omega)).mono ?_; rintro e wb ⟨v, rfl, hv0, hv1, hR, hO, hs⟩
      replace HS := Lib.hid (HS.out.pick hO hR)
      clear hR hO hs
      have q0 := HS.out.q.cell (i := 0) rfl
      have q1 := HS.out.q.cell (i := 1) rfl
      have q2 := HS.out.q.cell (i := 2) rfl
      have q3 := HS.out.q.cell (i := 3) rfl
      have q4 := HS.out.q.cell (i := 4) rfl
      have f0 := HS.out.q.frozen 0
      have f1 := HS.out.q.frozen 1
      have f2 := HS.out.q.frozen 2
      have f3 := HS.out.q.frozen 3
      have f4 := HS.out.q.frozen 4
      have z0 := HS.out.z.cell (i := 0) rfl
      have z1 := HS.out.z.cell (i := 1) rfl
      have z2 := HS.out.z.cell (i := 2) rfl
      have z3 := HS.out.z.cell (i := 3) rfl
      have z4 := HS.out.z.cell (i := 4) rfl
      have y0 := HS.out.z.frozen 0
      have y1 := HS.out.z.frozen 1
      have y2 := HS.out.z.frozen 2
      have y3 := HS.out.z.frozen 3
      have y4 := HS.out.z.frozen 4
      go_wp2_with fail
      obtain ⟨wf, hwf⟩ : ∃ W, W = (((((wb.setCell ⟨w.heap.size + 2, 0, none⟩ (.int .i64 v)).setCell ⟨w.heap.size, 0, none⟩ (.int .i64 v)).setCell ⟨w.heap.size, 1, none⟩ (.int .i64 0)).setCell ⟨w.heap.size, 2, none⟩ (.slice (some ⟨w.heap.size + 1, 0, none⟩) 0 0)).setCell ⟨w.heap.size, 3, none⟩ (.bool false)).setCell ⟨w.heap.size, 4, none⟩ (.int .i64 y) := ⟨_, rfl⟩
      rw [← hwf]
      obtain ⟨hP, hD⟩ := (HS.out.set_ 0 (.int .i64 v) (kind2 := v) (id2 := 0) (A2 := (some ⟨w.heap.size + 1, 0, none⟩)) (c2 := 0) (ys2 := []) (gr2 := false) (num2 := y) rfl HS.out.i HS.out.l).fin hwf
      have r0 := hP.cell (i := 0) rfl
      have r1 := hP.cell (i := 1) rfl
      have r2 := hP.cell (i := 2) rfl
      have r3 := hP.cell (i := 3) rfl
      have r4 := hP.cell (i := 4) rfl
      exact bodyPost_ret (v := .agg #[.int .i64 v, .int .i64 0, .slice (some ⟨w.heap.size + 1, 0, none⟩) 0 0, .bool false, .int .i64 y]) (by simp [results, Try.results60, go_sem, r0, r1, r2, r3, r4]) rfl hD
    have htb1 : (t == 1) = false := by simpa using ht1
    by_cases ht2 : t = 2
    · subst ht2
      obtain ⟨gx, hgx⟩ : ∃ b, (!false) = b := ⟨_, rfl⟩
      have q0 := HS.out.q.cell (i := 0) rfl
      have q1 := HS.out.q.cell (i := 1) rfl
      have q2 := HS.out.q.cell (i := 2) rfl
      have q3 := HS.out.q.cell (i := 3) rfl
      have q4 := HS.out.q.cell (i := 4) rfl
      have f0 := HS.out.q.frozen 0
      have f1 := HS.out.q.frozen 1
      have f2 := HS.out.q.frozen 2
      have f3 := HS.out.q.frozen 3
      have f4 := HS.out.q.frozen 4
      have z0 := HS.out.z.cell (i := 0) rfl
      have z1 := HS.out.z.cell (i := 1) rfl
      have z2 := HS.out.z.cell (i := 2) rfl
      have z3 := HS.out.z.cell (i := 3) rfl
      have z4 := HS.out.z.cell (i := 4) rfl
      have y0 := HS.out.z.frozen 0
      have y1 := HS.out.z.frozen 1
      have y2 := HS.out.z.frozen 2
      have y3 := HS.out.z.frozen 3
      have y4 := HS.out.z.frozen 4
      go_wp2_with fail
      obtain ⟨wf, hwf⟩ : ∃ W, W = (((((wa.setCell ⟨w.heap.size + 2, 3, none⟩ (.bool gx)).setCell ⟨w.heap.size, 0, none⟩ (.int .i64 3)).setCell ⟨w.heap.size, 1, none⟩ (.int .i64 0)).setCell ⟨w.heap.size, 2, none⟩ (.slice (some ⟨w.heap.size + 1, 0, none⟩) 0 0)).setCell ⟨w.heap.size, 3, none⟩ (.bool gx)).setCell ⟨w.heap.size, 4, none⟩ (.int .i64 y) := ⟨_, rfl⟩
      rw [← hwf]
      obtain ⟨hP, hD⟩ := (HS.out.set_ 3 (.bool gx) (kind2 := 3) (id2 := 0) (A2 := (some ⟨w.heap.size + 1, 0, none⟩)) (c2 := 0) (ys2 := []) (gr2 := gx) (num2 := y) rfl HS.out.i HS.out.l).fin hwf
      have r0 := hP.cell (i := 0) rfl
      have r1 := hP.cell (i := 1) rfl
      have r2 := hP.cell (i := 2) rfl
      have r3 := hP.cell (i := 3) rfl
      have r4 := hP.cell (i := 4) rfl
      exact bodyPost_ret (v := .agg #[.int .i64 3, .int .i64 0, .slice (some ⟨w.heap.size + 1, 0, none⟩) 0 0, .bool gx, .int .i64 y]) (by simp [results, Try.results60, go_sem, r0, r1, r2, r3, r4]) rfl hD
    have htb2 : (t == 2) = false := by simpa using ht2
    have q0 := HS.out.q.cell (i := 0) rfl
    have q1 := HS.out.q.cell (i := 1) rfl
    have q2 := HS.out.q.cell (i := 2) rfl
    have q3 := HS.out.q.cell (i := 3) rfl
    have q4 := HS.out.q.cell (i := 4) rfl
    have f0 := HS.out.q.frozen 0
    have f1 := HS.out.q.frozen 1
    have f2 := HS.out.q.frozen 2
    have f3 := HS.out.q.frozen 3
    have f4 := HS.out.q.frozen 4
    have z0 := HS.out.z.cell (i := 0) rfl
    have z1 := HS.out.z.cell (i := 1) rfl
    have z2 := HS.out.z.cell (i := 2) rfl
    have z3 := HS.out.z.cell (i := 3) rfl
    have z4 := HS.out.z.cell (i := 4) rfl
    have y0 := HS.out.z.frozen 0
    have y1 := HS.out.z.frozen 1
    have y2 := HS.out.z.frozen 2
    have y3 := HS.out.z.frozen 3
    have y4 := HS.out.z.frozen 4
    go_wp2_with fail
    obtain ⟨wf, hwf⟩ : ∃ W, W = ((((wa.setCell ⟨w.heap.size, 0, none⟩ (.int .i64 3)).setCell ⟨w.heap.size, 1, none⟩ (.int .i64 0)).setCell ⟨w.heap.size, 2, none⟩ (.slice (some ⟨w.heap.size + 1, 0, none⟩) 0 0)).setCell ⟨w.heap.size, 3, none⟩ (.bool false)).setCell ⟨w.heap.size, 4, none⟩ (.int .i64 y) := ⟨_, rfl⟩
    rw [← hwf]
    obtain ⟨hP, hD⟩ := HS.out.fin hwf
    have r0 := hP.cell (i := 0) rfl
    have r1 := hP.cell (i := 1) rfl
    have r2 := hP.cell (i := 2) rfl
    have r3 := hP.cell (i := 3) rfl
    have r4 := hP.cell (i := 4) rfl
    exact bodyPost_ret (v := .agg #[.int .i64 3, .int .i64 0, .slice (some ⟨w.heap.size + 1, 0, none⟩) 0 0, .bool false, .int .i64 y]) (by simp [results, Try.results60, go_sem, r0, r1, r2, r3, r4]) rfl hD
  have hx1 : (x == 1) = false := by simpa using hx
  clear hx
  by_cases hx : x = 2
  · subst hx
    have q0 := HS.out.q.cell (i := 0) rfl
    have f0 := HS.out.q.frozen 0
    go_wp2_with fail
    obtain ⟨w3, hw⟩ : ∃ W, W = w2.setCell ⟨w.heap.size + 2, 0, none⟩ (.int .i64 4) := ⟨_, rfl⟩
    rw [← hw]
    replace HS : Hid (QS 46 w w3 g _ 4 0 (some ⟨w.heap.size + 1, 0, none⟩) 0 [] false 0) := Lib.hid (by rw [hw]; exact HS.out.set_ 0 (.int .i64 4) rfl HS.out.i HS.out.l)
    clear hw
    clear q0 f0
    refine (pick_any g (p + 1) 7 w3 HS.out.r (by omega) (by omega)).mono ?_; rintro e w4 ⟨y, rfl, hy0, hy1, hR, hO, hs⟩
    replace HS := Lib.hid (HS.out.pick hO hR)
    clear hR hO hs
    have q4 := HS.out.q.cell (i := 4) rfl
    have f4 := HS.out.q.frozen 4
    go_wp2_with fail
    obtain ⟨w5, hw⟩ : ∃ W, W = w4.setCell ⟨w.heap.size + 2, 4, none⟩ (.int .i64 y) := ⟨_, rfl⟩
    rw [← hw]
    replace HS : Hid (QS 46 w w5 g _ 4 0 (some ⟨w.heap.size + 1, 0, none⟩) 0 [] false y) := Lib.hid (by rw [hw]; exact HS.out.set_ 4 (.int .i64 y) rfl HS.out.i HS.out.l)
    clear hw
    clear q4 f4
    refine (pick_any g (p + 1 + 1) 40 w5 HS.out.r (by omega) (by omega)).mono ?_; rintro e wa ⟨t, rfl, ht0, ht1, hR, hO, hs⟩
    replace HS := Lib.hid (HS.out.pick hO hR)
    clear hR hO hs
    by_cases ht : t = 0
    · subst ht
      have hbl : Below wa.heap.size wa (wa.alloc (.cells #[.int .i64 (-1), .int .i64 10, .int .i64 20, .int .i64 21, .int .i64 41] 3)) := (Below.refl _ _).alloc (Nat.le_refl _) _
      have HL : Hid (Blk (wa.alloc (.cells #[.int .i64 (-1), .int .i64 10, .int .i64 20, .int .i64 21, .int .i64 41] 3)) wa.heap.size 3 [.int .i64 (-1), .int .i64 10, .int .i64 20, .int .i64 21, .int .i64 41]) := Lib.hid (Blk.new wa _ [.int .i64 (-1), .int .i64 10, .int .i64 20, .int .i64 21, .int .i64 41])
      have hga : g < wa.heap.size := by have := HS.out.g; have := HS.out.h; omega
      have hgb : w.heap.size + 3 ≤ wa.heap.size := HS.out.h
      replace HS := Lib.hid (HS.out.made hbl)
      clear hbl
      go_wp2_with fail
      refine (pick_any g (p + 1 + 1 + 1) 5 _ HS.out.r (by omega) (by omega)).mono ?_; rintro e wb ⟨j0, rfl, hj0, hj1, hR, hO, hs⟩
      replace HS := Lib.hid (HS.out.pick hO hR)
      replace HL := Lib.hid (HL.out.only hO (.inr (by omega)))
      clear hR hO hs
      obtain ⟨j, rfl⟩ := Int.eq_ofNat_of_zero_le hj0
      have hj5 : j < 5 := by omega
      obtain ⟨u, hu⟩ := lit5_val hj5
      have hlc := HL.out.cell hu
      have q0 := HS.out.q.cell (i := 0) rfl
      have q1 := HS.out.q.cell (i := 1) rfl
      have q2 := HS.out.q.cell (i := 2) rfl
      have q3 := HS.out.q.cell (i := 3) rfl
      have q4 := HS.out.q.cell (i := 4) rfl
      have f0 := HS.out.q.frozen 0
      have f1 := HS.out.q.frozen 1
      have f2 := HS.out.q.frozen 2
      have f3 := HS.out.q.frozen 3
      have f4 := HS.out.q.frozen 4
      have z0 := HS.out.z.cell (i := 0) rfl
      have z1 := HS.out.z.cell (i := 1) rfl
      have z2 := HS.out.z.cell (i := 2) rfl
      have z3 := HS.out.z.cell (i := 3) rfl
      have z4 := HS.out.z.cell (i := 4) rfl
      have y0 := HS.out.z.frozen 0
      have y1 := HS.out.z.frozen 1
      have y2 := HS.out.z.frozen 2
      have y3 := HS.out.z.frozen 3
      have y4 := HS.out.z.frozen 4
      go_wp2_with fail
      obtain ⟨wf, hwf⟩ : ∃ W, W = (((((wb.setCell ⟨w.heap.size + 2, 4, none⟩ (.int .i64 u)).setCell ⟨w.heap.size, 0, none⟩ (.int .i64 4)).setCell ⟨w.heap.size, 1, none⟩ (.int .i64 0)).setCell ⟨w.heap.size, 2, none⟩ (.slice (some ⟨w.heap.size + 1, 0, none⟩) 0 0)).setCell ⟨w.heap.size, 3, none⟩ (.bool false)).setCell ⟨w.heap.size, 4, none⟩ (.int .i64 u) := ⟨_, rfl⟩
      rw [← hwf]
      obtain ⟨hP, hD⟩ := (HS.out.set_ 4 (.int .i64 u) (kind2 := 4) (id2 := 0) (A2 := (some ⟨w.heap.size + 1, 0, none⟩)) (c2 := 0) (ys2 := []) (gr2 := false) (num2 := u) rfl HS.out.i HS.out.l).fin hwf
      have r0 := hP.cell (i := 0) rfl
      have r1 := hP.cell (i := 1) rfl
      have r2 := hP.cell (i := 2) rfl
      have r3 := hP.cell (i := 3) rfl
      have r4 := hP.cell (i := 4) rfl
      exact bodyPost_ret (v := .agg #[.int .i64 4, .int .i64 0, .slice (some ⟨w.heap.size + 1, 0, none⟩) 0 0, .bool false, .int .i64 u]) (by simp [results, Try.results60, go_sem, r0, r1, r2, r3, r4]) rfl hD
    have htb : (t == 0) = false := by simpa using ht
    by_cases ht1 : t = 1
    · subst ht1
      go_wp2_with fail
      refine (pick_any g (p + 1 + 1 + 1) 7 wa HS.out.r (by omega) (by omega)).mono ?_; rintro e wb ⟨v, rfl, hv0, hv1, hR, hO, hs⟩
      replace HS := Lib.hid (HS.out.pick hO hR)
      clear hR hO hs
      have q0 := HS.out.q.cell (i := 0) rfl
      have q1 := HS.out.q.cell (i := 1) rfl
      have q2 := HS.out.q.cell (i := 2) rfl
      have q3 := HS.out.q.cell (i := 3) rfl
      have q4 := HS.out.q.cell (i := 4) rfl
      have f0 := HS.out.q.frozen 0
      have f1 := HS.out.q.frozen 1
      have f2 := HS.out.q.frozen 2
      have f3 := HS.out.q.frozen 3
      have f4 := HS.out.q.frozen 4
      have z0 := HS.out.z.cell (i := 0) rfl
      have z1 := HS.out.z.cell (i := 1) rfl
      have z2 := HS.out.z.cell (i := 2) rfl
      have z3 := HS.out.z.cell (i := 3) rfl
      have z4 := HS.out.z.cell (i := 4) rfl
      have y0 := HS.out.z.frozen 0
      have y1 := HS.out.z.frozen 1
      have y2 := HS.out.z.frozen 2
      have y3 := HS.out.z.frozen 3
      have y4 := HS.out.z.frozen 4
      go_wp2_with fail
      obtain ⟨wf, hwf⟩ : ∃ W, W = (((((wb.setCell ⟨w.heap.size + 2, 0, none⟩ (.int .i64 v)).setCell ⟨w.heap.size, 0, none⟩ (.int .i64 v)).setCell ⟨w.heap.size, 1, none⟩ (.int .i64 0)).setCell ⟨w.heap.size, 2, none⟩ (.slice (some ⟨w.heap.size + 1, 0, none⟩) 0 0)).setCell ⟨w.heap.size, 3, none⟩ (.bool false)).setCell ⟨w.heap.size, 4, none⟩ (.int .i64 y) := ⟨_, rfl⟩
      rw [← hwf]
      obtain ⟨hP, hD⟩ := (HS.out.set_ 0 (.int .i64 v) (kind2 := v) (id2 := 0) (A2 := (some ⟨w.heap.size + 1, 0, none⟩)) (c2 := 0) (ys2 := []) (gr2 := false) (num2 := y) rfl HS.out.i HS.out.l).fin hwf
      have r0 := hP.cell (i := 0) rfl
      have r1 := hP.cell (i := 1) rfl
      have r2 := hP.cell (i := 2) rfl
      have r3 := hP.cell (i := 3) rfl
      have r4 := hP.cell (i := 4) rfl
      exact bodyPost_ret (v := .agg #[.int .i64 v, .int .i64 0, .slice (some ⟨w.heap.size + 1, 0, none⟩) 0 0, .bool false, .int .i64 y]) (by simp [results, Try.results60, go_sem, r0, r1, r2, r3, r4]) rfl hD
    have htb1 : (t == 1) = false := by simpa using ht1
    by_cases ht2 : t = 2
    · subst ht2
      obtain ⟨gx, hgx⟩ : ∃ b, (!false) = b := ⟨_, rfl⟩
      have q0 := HS.out.q.cell (i := 0) rfl
      have q1 := HS.out.q.cell (i := 1) rfl
      have q2 := HS.out.q.cell (i := 2) rfl
      have q3 := HS.out.q.cell (i := 3) rfl
      have q4 := HS.out.q.cell (i := 4) rfl
      have f0 := HS.out.q.frozen 0
      have f1 := HS.out.q.frozen 1
      have f2 := HS.out.q.frozen 2
      have f3 := HS.out.q.frozen 3
      have f4 := HS.out.q.frozen 4
      have z0 := HS.out.z.cell (i := 0) rfl
      have z1 := HS.out.z.cell (i := 1) rfl
      have z2 := HS.out.z.cell (i := 2) rfl
      have z3 := HS.out.z.cell (i := 3) rfl
      have z4 := HS.out.z.cell (i := 4) rfl
      have y0 := HS.out.z.frozen 0
      have y1 := HS.out.z.frozen 1
      have y2 := HS.out.z.frozen 2
      have y3 := HS.out.z.frozen 3
      have y4 := HS.out.z.frozen 4
      go_wp2_with fail
      obtain ⟨wf, hwf⟩ : ∃ W, W = (((((wa.setCell ⟨w.heap.size + 2, 3, none⟩ (.bool gx)).setCell ⟨w.heap.size, 0, none⟩ (.int .i64 4)).setCell ⟨w.heap.size, 1, none⟩ (.int .i64 0)).setCell ⟨w.heap.size, 2, none⟩ (.slice (some ⟨w.heap.size + 1, 0, none⟩) 0 0)).setCell ⟨w.heap.size, 3, none⟩ (.bool gx)).setCell ⟨w.heap.size, 4, none⟩ (.int .i64 y) := ⟨_, rfl⟩
      rw [← hwf]
      obtain ⟨hP, hD⟩ := (HS.out.set_ 3 (.bool gx) (kind2 := 4) (id2 := 0) (A2 := (some ⟨w.heap.size + 1, 0, none⟩)) (c2 := 0) (ys2 := []) (gr2 := gx) (num2 := y) rfl HS.out.i HS.out.l).fin hwf
      have r0 := hP.cell (i := 0) rfl
      have r1 := hP.cell (i := 1) rfl
      have r2 := hP.cell (i := 2) rfl
      have r3 := hP.cell (i := 3) rfl
      have r4 := hP.cell (i := 4) rfl
      exact bodyPost_ret (v := .agg #[.int .i64 4, .int .i64 0, .slice (some ⟨w.heap.size + 1, 0, none⟩) 0 0, .bool gx, .int .i64 y]) (by simp [results, Try.results60, go_sem, r0, r1, r2, r3, r4]) rfl hD
    have htb2 : (t == 2) = false := by simpa using ht2
    have q0 := HS.out.q.cell (i := 0) rfl
    have q1 := HS.out.q.cell (i := 1) rfl
    have q2 := HS.out.q.cell (i := 2) rfl
    have q3 := HS.out.q.cell (i := 3) rfl
    have q4 := HS.out.q.cell (i := 4) rfl
    have f0 := HS.out.q.frozen 0
    have f1 := HS.out.q.frozen 1
    have f2 := HS.out.q.frozen 2
    have f3 := HS.out.q.frozen 3
    have f4 := HS.out.q.frozen 4
    have z0 := HS.out.z.cell (i := 0) rfl
    have z1 := HS.out.z.cell (i := 1) rfl
    have z2 := HS.out.z.cell (i := 2) rfl
    have z3 := HS.out.z.cell (i := 3) rfl
    have z4 := HS.out.z.cell (i := 4) rfl
    have y0 := HS.out.z.frozen 0
    have y1 := HS.out.z.frozen 1
    have y2 := HS.out.z.frozen 2
    have y3 := HS.out.z.frozen 3
    have y4 := HS.out.z.frozen 4
    go_wp2_with fail
    obtain ⟨wf, hwf⟩ : ∃ W, W = ((((wa.setCell ⟨w.heap.size, 0, none⟩ (.int .i64 4)).setCell ⟨w.heap.size, 1, none⟩ (.int .i64 0)).setCell ⟨w.heap.size, 2, none⟩ (.slice (some ⟨w.heap.size + 1, 0, none⟩) 0 0)).setCell ⟨w.heap.size, 3, none⟩ (.bool false)).setCell ⟨w.heap.size, 4, none⟩ (.int .i64 y) := ⟨_, rfl⟩
    rw [← hwf]
    obtain ⟨hP, hD⟩ := HS.out.fin hwf
    have r0 := hP.cell (i := 0) rfl
    have r1 := hP.cell (i := 1) rfl
    have r2 := hP.cell (i := 2) rfl
    have r3 := hP.cell (i := 3) rfl
    have r4 := hP.cell (i := 4) rfl
    exact bodyPost_ret (v := .agg #[.int .i64 4, .int .i64 0, .slice (some ⟨w.heap.size + 1, 0, none⟩) 0 0, .bool false, .int .i64 y]) (by simp [results, Try.results60, go_sem, r0, r1, r2, r3, r4]) rfl hD
  have hx2 : (x == 2) = false := by simpa using hx
  clear hx
  by_cases hx : x = 3
  · subst hx
    have q0 := HS.out.q.cell (i := 0) rfl
    have f0 := HS.out.q.frozen 0
    go_wp2_with fail
    obtain ⟨w3, hw⟩ : ∃ W, W = w2.setCell ⟨w.heap.size + 2, 0, none⟩ (.int .i64 5) := ⟨_, rfl⟩
    rw [← hw]
    replace HS : Hid (QS 46 w w3 g _ 5 0 (some ⟨w.heap.size + 1, 0, none⟩) 0 [] false 0) := Lib.hid (by rw [hw]; exact HS.out.set_ 0 (.int .i64 5) rfl HS.out.i HS.out.l)
    clear hw
    clear q0 f0
    refine (pick_any g (p + 1) 9 w3 HS.out.r (by omega) (by omega)).mono ?_; rintro e w4 ⟨y, rfl, hy0, hy1, hR, hO, hs⟩
    replace HS := Lib.hid (HS.out.pick hO hR)
    clear hR hO hs
    have q4 := HS.out.q.cell (i := 4) rfl
    have f4 := HS.out.q.frozen 4
    go_wp2_with fail
    obtain ⟨w5, hw⟩ : ∃ W, W = w4.setCell ⟨w.heap.size + 2, 4, none⟩ (.int .i64 y) := ⟨_, rfl⟩
    rw [← hw]
    replace HS : Hid (QS 46 w w5 g _ 5 0 (some ⟨w.heap.size + 1, 0, none⟩) 0 [] false y) := Lib.hid (by rw [hw]; exact HS.out.set_ 4 (.int .i64 y) rfl HS.out.i HS.out.l)
    clear hw
    clear q4 f4
    refine (pick_any g (p + 1 + 1) 40 w5 HS.out.r (by omega) (by omega)).mono ?_; rintro e wa ⟨t, rfl, ht0, ht1, hR, hO, hs⟩
    replace HS := Lib.hid (HS.out.pick hO hR)
    clear hR hO hs
    by_cases ht : t = 0
    · subst ht
      have hbl : Below wa.heap.size wa (wa.alloc (.cells #[.int .i64 (-1), .int .i64 10, .int .i64 20, .int .i64 21, .int .i64 41] 3)) := (Below.refl _ _).alloc (Nat.le_refl _) _
      have HL : Hid (Blk (wa.alloc (.cells #[.int .i64 (-1), .int .i64 10, .int .i64 20, .int .i64 21, .int .i64 41] 3)) wa.heap.size 3 [.int .i64 (-1), .int .i64 10, .int .i64 20, .int .i64 21, .int .i64 41]) := Lib.hid (Blk.new wa _ [.int .i64 (-1), .int .i64 10, .int .i64 20, .int .i64 21, .int .i64 41])
      have hga : g < wa.heap.size := by have := HS.out.g; have := HS.out.h; omega
      have hgb : w.heap.size + 3 ≤ wa.heap.size := HS.out.h
      replace HS := Lib.hid (HS.out.made hbl)
      clear hbl
      go_wp2_with fail
      refine (pick_any g (p + 1 + 1 + 1) 5 _ HS.out.r (by omega) (by omega)).mono ?_; rintro e wb ⟨j0, rfl, hj0, hj1, hR, hO, hs⟩
      replace HS := Lib.hid (HS.out.pick hO hR)
      replace HL := Lib.hid (HL.out.only hO (.inr (by omega)))
      clear hR hO hs
      obtain ⟨j, rfl⟩ := Int.eq_ofNat_of_zero_le hj0
      have hj5 : j < 5 := by omega
      obtain ⟨u, hu⟩ := lit5_val hj5
      have hlc := HL.out.cell hu
      have q0 := HS.out.q.cell (i := 0) rfl
      have q1 := HS.out.q.cell (i := 1) rfl
      have q2 := HS.out.q.cell (i := 2) rfl
      have q3 := HS.out.q.cell (i := 3) rfl
      have q4 := HS.out.q.cell (i := 4) rfl
      have f0 := HS.out.q.frozen 0
      have f1 := HS.out.q.frozen 1
      have f2 := HS.out.q.frozen 2
      have f3 := HS.out.q.frozen 3
      have f4 := HS.out.q.frozen 4
      have z0 := HS.out.z.cell (i := 0) rfl
      have z1 := HS.out.z.cell (i := 1) rfl
      have z2 := HS.out.z.cell (i := 2) rfl
      have z3 := HS.out.z.cell (i := 3) rfl
      have z4 := HS.out.z.cell (i := 4) rfl
      have y0 := HS.out.z.frozen 0
      have y1 := HS.out.z.frozen 1
      have y2 := HS.out.z.frozen 2
      have y3 := HS.out.z.frozen 3
      have y4 := HS.out.z.frozen 4
      go_wp2_with fail
      obtain ⟨wf, hwf⟩ : ∃ W, W = (((((wb.setCell ⟨w.heap.size + 2, 4, none⟩ (.int .i64 u)).setCell ⟨w.heap.size, 0, none⟩ (.int .i64 5)).setCell ⟨w.heap.size, 1, none⟩ (.int .i64 0)).setCell ⟨w.heap.size, 2, none⟩ (.slice (some ⟨w.heap.size + 1, 0, none⟩) 0 0)).setCell ⟨w.heap.size, 3, none⟩ (.bool false)).setCell ⟨w.heap.size, 4, none⟩ (.int .i64 u) := ⟨_, rfl⟩
      rw [← hwf]
      obtain ⟨hP, hD⟩ := (HS.out.set_ 4 (.int .i64 u) (kind2 := 5) (id2 := 0) (A2 := (some ⟨w.heap.size + 1, 0, none⟩)) (c2 := 0) (ys2 := []) (gr2 := false) (num2 := u) rfl HS.out.i HS.out.l).fin hwf
      have r0 := hP.cell (i := 0) rfl
      have r1 := hP.cell (i := 1) rfl
      have r2 := hP.cell (i := 2) rfl
      have r3 := hP.cell (i := 3) rfl
      have r4 := hP.cell (i := 4) rfl
      exact bodyPost_ret (v := .agg #[.int .i64 5, .int .i64 0, .slice (some ⟨w.heap.size + 1, 0, none⟩) 0 0, .bool false, .int .i64 u]) (by simp [results, Try.results60, go_sem, r0, r1, r2, r3, r4]) rfl hD
    have htb : (t == 0) = false := by simpa using ht
    by_cases ht1 : t = 1
    · subst ht1
      go_wp2_with fail
      refine (pick_any g (p + 1 + 1 + 1) 7 wa HS.out.r (by omega) (by omega)).mono ?_; rintro e wb ⟨v, rfl, hv0, hv1, hR, hO, hs⟩
      replace HS := Lib.hid (HS.out.pick hO hR)
      clear hR hO hs
      have q0 := HS.out.q.cell (i := 0) rfl
      have q1 := HS.out.q.cell (i := 1) rfl
      have q2 := HS.out.q.cell (i := 2) rfl
      have q3 := HS.out.q.cell (i := 3) rfl
      have q4 := HS.out.q.cell (i := 4) rfl
      have f0 := HS.out.q.frozen 0
      have f1 := HS.out.q.frozen 1
      have f2 := HS.out.q.frozen 2
      have f3 := HS.out.q.frozen 3
      have f4 := HS.out.q.frozen 4
      have z0 := HS.out.z.cell (i := 0) rfl
      have z1 := HS.out.z.cell (i := 1) rfl
      have z2 := HS.out.z.cell (i := 2) rfl
      have z3 := HS.out.z.cell (i := 3) rfl
      have z4 := HS.out.z.cell (i := 4) rfl
      have y0 := HS.out.z.frozen 0
      have y1 := HS.out.z.frozen 1
      have y2 := HS.out.z.frozen 2
      have y3 := HS.out.z.frozen 3
      have y4 := HS.out.z.frozen 4
      go_wp2_with fail
      obtain ⟨wf, hwf⟩ : ∃ W, W = (((((wb.setCell ⟨w.heap.size + 2, 0, none⟩ (.int .i64 v)).setCell ⟨w.heap.size, 0, none⟩ (.int .i64 v)).setCell ⟨w.heap.size, 1, none⟩ (.int .i64 0)).setCell ⟨w.heap.size, 2, none⟩ (.slice (some ⟨w.heap.size + 1, 0, none⟩) 0 0)).setCell ⟨w.heap.size, 3, none⟩ (.bool false)).setCell ⟨w.heap.size, 4, none⟩ (.int .i64 y) := ⟨_, rfl⟩
      rw [← hwf]
      obtain ⟨hP, hD⟩ := (HS.out.set_ 0 (.int .i64 v) (kind2 := v) (id2 := 0) (A2 := (some ⟨w.heap.size + 1, 0, none⟩)) (c2 := 0) (ys2 := []) (gr2 := false) (num2 := y) rfl HS.out.i HS.out.l).fin hwf
      have r0 := hP.cell (i := 0) rfl
      have r1 := hP.cell (i := 1) rfl
      have r2 := hP.cell (i := 2) rfl
      have r3 := hP.cell (i := 3) rfl
      have r4 := hP.cell (i := 4) rfl
      exact bodyPost_ret (v := .agg #[.int .i64 v, .int .i64 0, .slice (some ⟨w.heap.size + 1, 0, none⟩) 0 0, .bool false, .int .i64 y]) (by simp [results, Try.results60, go_sem, r0, r1, r2, r3, r4]) rfl hD
    have htb1 : (t == 1) = false := by simpa using ht1
    by_cases ht2 : t = 2
    · subst ht2
      obtain ⟨gx, hgx⟩ : ∃ b, (!false) = b := ⟨_, rfl⟩
      have q0 := HS.out.q.cell (i := 0) rfl
      have q1 := HS.out.q.cell (i := 1) rfl
      have q2 := HS.out.q.cell (i := 2) rfl
      have q3 := HS.out.q.cell (i := 3) rfl
      have q4 := HS.out.q.cell (i := 4) rfl
      have f0 := HS.out.q.frozen 0
      have f1 := HS.out.q.frozen 1
      have f2 := HS.out.q.frozen 2
      have f3 := HS.out.q.frozen 3
      have f4 := HS.out.q.frozen 4
      have z0 := HS.out.z.cell (i := 0) rfl
      have z1 := HS.out.z.cell (i := 1) rfl
      have z2 := HS.out.z.cell (i := 2) rfl
      have z3 := HS.out.z.cell (i := 3) rfl
      have z4 := HS.out.z.cell (i := 4) rfl
      have y0 := HS.out.z.frozen 0
      have y1 := HS.out.z.frozen 1
      have y2 := HS.out.z.frozen 2
      have y3 := HS.out.z.frozen 3
      have y4 := HS.out.z.frozen 4
      go_wp2_with fail
      obtain ⟨wf, hwf⟩ : ∃ W, W = (((((wa.setCell ⟨w.heap.size + 2, 3, none⟩ (.bool gx)).setCell ⟨w.heap.size, 0, none⟩ (.int .i64 5)).setCell ⟨w.heap.size, 1, none⟩ (.int .i64 0)).setCell ⟨w.heap.size, 2, none⟩ (.slice (some ⟨w.heap.size + 1, 0, none⟩) 0 0)).setCell ⟨w.heap.size, 3, none⟩ (.bool gx)).setCell ⟨w.heap.size, 4, none⟩ (.int .i64 y) := ⟨_, rfl⟩
      rw [← hwf]
      obtain ⟨hP, hD⟩ := (HS.out.set_ 3 (.bool gx) (kind2 := 5) (id2 := 0) (A2 := (some ⟨w.heap.size + 1, 0, none⟩)) (c2 := 0) (ys2 := []) (gr2 := gx) (num2 := y) rfl HS.out.i HS.out.l).fin hwf
      have r0 := hP.cell (i := 0) rfl
      have r1 := hP.cell (i := 1) rfl
      have r2 := hP.cell (i := 2) rfl
      have r3 := hP.cell (i := 3) rfl
      have r4 := hP.cell (i := 4) rfl
      exact bodyPost_ret (v := .agg #[.int .i64 5, .int .i64 0, .slice (some ⟨w.heap.size + 1, 0, none⟩) 0 0, .bool gx, .int .i64 y]) (by simp [results, Try.results60, go_sem, r0, r1, r2, r3, r4]) rfl hD
    have htb2 : (t == 2) = false := by simpa using ht2
    have q0 := HS.out.q.cell (i := 0) rfl
    have q1 := HS.out.q.cell (i := 1) rfl
    have q2 := HS.out.q.cell (i := 2) rfl
    have q3 := HS.out.q.cell (i := 3) rfl
    have q4 := HS.out.q.cell (i := 4) rfl
    have f0 := HS.out.q.frozen 0
    have f1 := HS.out.q.frozen 1
    have f2 := HS.out.q.frozen 2
    have f3 := HS.out.q.frozen 3
    have f4 := HS.out.q.frozen 4
    have z0 := HS.out.z.cell (i := 0) rfl
    have z1 := HS.out.z.cell (i := 1) rfl
    have z2 := HS.out.z.cell (i := 2) rfl
    have z3 := HS.out.z.cell (i := 3) rfl
    have z4 := HS.out.z.cell (i := 4) rfl
    have y0 := HS.out.z.frozen 0
    have y1 := HS.out.z.frozen 1
    have y2 := HS.out.z.frozen 2
    have y3 := HS.out.z.frozen 3
    have y4 := HS.out.z.frozen 4
    go_wp2_with fail
    obtain ⟨wf, hwf⟩ : ∃ W, W = ((((wa.setCell ⟨w.heap.size, 0, none⟩ (.int .i64 5)).setCell ⟨w.heap.size, 1, none⟩ (.int .i64 0)).setCell ⟨w.heap.size, 2, none⟩ (.slice (some ⟨w.heap.size + 1, 0, none⟩) 0 0)).setCell ⟨w.heap.size, 3, none⟩ (.bool false)).setCell ⟨w.heap.size, 4, none⟩ (.int .i64 y) := ⟨_, rfl⟩
    rw [← hwf]
    obtain ⟨hP, hD⟩ := HS.out.fin hwf
    have r0 := hP.cell (i := 0) rfl
    have r1 := hP.cell (i := 1) rfl
    have r2 := hP.cell (i := 2) rfl
    have r3 := hP.cell (i := 3) rfl
    have r4 := hP.cell (i := 4) rfl
    exact bodyPost_ret (v := .agg #[.int .i64 5, .int .i64 0, .slice (some ⟨w.heap.size + 1, 0, none⟩) 0 0, .bool false, .int .i64 y]) (by simp [results, Try.results60, go_sem, r0, r1, r2, r3, r4]) rfl hD
  have hx3 : (x == 3) = false := by simpa using hx
  clear hx
  go_wp2_with fail
  refine (pick_any g (p + 1) 20 w2 HS.out.r (by omega) (by omega)).mono ?_; rintro e w3 ⟨y, rfl, hy0, hy1, hR, hO, hs⟩
  replace HS := Lib.hid (HS.out.pick hO hR)
  clear hR hO hs
  have hyw : IntKind.i64.wrap (1 + y) = 1 + y := wrap_small (by omega)
  obtain ⟨ny, hny⟩ : ∃ z : Int, 1 + y = z := ⟨_, rfl⟩
  rw [hny] at hyw
  go_wp2_with fail
  clear hyw hny
  refine (l91Task_any g (p + 1 + 1) ny w3 HS.out.r (by omega)).mono ?_; rintro e w4 ⟨A4, c4, zs, p4, rfl, hI, hz, hzb, hR, hp1, hp2, hO⟩
  have hz3 : zs.length ≤ 3 := by omega
  have HI := Lib.hid (hI.mono (HS.out.h) (Nat.le_refl _))
  replace HS := Lib.hid (HS.out.pick hO hR)
  clear hR hO hI hz hzb
  have q1 := HS.out.q.cell (i := 1) rfl
  have q2 := HS.out.q.cell (i := 2) rfl
  have f1 := HS.out.q.frozen 1
  have f2 := HS.out.q.frozen 2
  go_wp2_with fail
  obtain ⟨w5, hw⟩ : ∃ W, W = (w4.setCell ⟨w.heap.size + 2, 1, none⟩ (.int .i64 ny)).setCell ⟨w.heap.size + 2, 2, none⟩ (.slice A4 zs.length c4) := ⟨_, rfl⟩
  rw [← hw]
  replace HS : Hid (QS 46 w w5 g _ 1 ny A4 c4 zs false 0) := Lib.hid (by rw [hw]; exact HS.out.set2 ny HI.out hz3)
  clear hw HI hz3
  clear q1 f1 q2 f2
  refine (pick_any g (p4) 2 w5 HS.out.r (by omega) (by omega)).mono ?_; rintro e w6 ⟨gv, rfl, hgv0, hgv1, hR, hO, hs⟩
  replace HS := Lib.hid (HS.out.pick hO hR)
  clear hR hO hs
  have q3 := HS.out.q.cell (i := 3) rfl
  have f3 := HS.out.q.frozen 3
  obtain ⟨gb, hgb⟩ : ∃ b, (gv == 0) = b := ⟨_, rfl⟩
  go_wp2_with fail
  obtain ⟨w7, hw⟩ : ∃ W, W = w6.setCell ⟨w.heap.size + 2, 3, none⟩ (.bool gb) := ⟨_, rfl⟩
  rw [← hw]
  replace HS : Hid (QS 46 w w7 g _ 1 ny A4 c4 zs gb 0) := Lib.hid (by rw [hw]; exact HS.out.set_ 3 (.bool gb) rfl HS.out.i HS.out.l)
  clear hw
  clear q3 f3
  refine (pick_any g (p4 + 1) 40 w7 HS.out.r (by omega) (by omega)).mono ?_; rintro e wa ⟨t, rfl, ht0, ht1, hR, hO, hs⟩
  replace HS := Lib.hid (HS.out.pick hO hR)
  clear hR hO hs
  by_cases ht : t = 0
  · subst ht
    have hbl : Below wa.heap.size wa (wa.alloc (.cells #[.int .i64 (-1), .int .i64 10, .int .i64 20, .int .i64 21, .int .i64 41] 3)) := (Below.refl _ _).alloc (Nat.le_refl _) _
    have HL : Hid (Blk (wa.alloc (.cells #[.int .i64 (-1), .int .i64 10, .int .i64 20, .int .i64 21, .int .i64 41] 3)) wa.heap.size 3 [.int .i64 (-1), .int .i64 10, .int .i64 20, .int .i64 21, .int .i64 41]) := Lib.hid (Blk.new wa _ [.int .i64 (-1), .int .i64 10, .int .i64 20, .int .i64 21, .int .i64 41])
    have hga : g < wa.heap.size := by have := HS.out.g; have := HS.out.h; omega
    have hgb : w.heap.size + 3 ≤ wa.heap.size := HS.out.h
    replace HS := Lib.hid (HS.out.made hbl)
    clear hbl
    go_wp2_with fail
    refine (pick_any g (p4 + 1 + 1) 5 _ HS.out.r (by omega) (by omega)).mono ?_; rintro e wb ⟨j0, rfl, hj0, hj1, hR, hO, hs⟩
    replace HS := Lib.hid (HS.out.pick hO hR)
    replace HL := Lib.hid (HL.out.only hO (.inr (by omega)))
    clear hR hO hs
    obtain ⟨j, rfl⟩ := Int.eq_ofNat_of_zero_le hj0
    have hj5 : j < 5 := by omega
    obtain ⟨u, hu⟩ := lit5_val hj5
    have hlc := HL.out.cell hu
    have q0 := HS.out.q.cell (i := 0) rfl
    have q1 := HS.out.q.cell (i := 1) rfl
    have q2 := HS.out.q.cell (i := 2) rfl
    have q3 := HS.out.q.cell (i := 3) rfl
    have q4 := HS.out.q.cell (i := 4) rfl
    have f0 := HS.out.q.frozen 0
    have f1 := HS.out.q.frozen 1
    have f2 := HS.out.q.frozen 2
    have f3 := HS.out.q.frozen 3
    have f4 := HS.out.q.frozen 4
    have z0 := HS.out.z.cell (i := 0) rfl
    have z1 := HS.out.z.cell (i := 1) rfl
    have z2 := HS.out.z.cell (i := 2) rfl
    have z3 := HS.out.z.cell (i := 3) rfl
    have z4 := HS.out.z.cell (i := 4) rfl
    have y0 := HS.out.z.frozen 0
    have y1 := HS.out.z.frozen 1
    have y2 := HS.out.z.frozen 2
    have y3 := HS.out.z.frozen 3
    have y4 := HS.out.z.frozen 4
    go_wp2_with fail
    obtain ⟨wf, hwf⟩ : ∃ W, W = (((((wb.setCell ⟨w.heap.size + 2, 4, none⟩ (.int .i64 u)).setCell ⟨w.heap.size, 0, none⟩ (.int .i64 1)).setCell ⟨w.heap.size, 1, none⟩ (.int .i64 ny)).setCell ⟨w.heap.size, 2, none⟩ (.slice A4 zs.length c4)).setCell ⟨w.heap.size, 3, none⟩ (.bool gb)).setCell ⟨w.heap.size, 4, none⟩ (.int .i64 u) := ⟨_, rfl⟩
    rw [← hwf]
    obtain ⟨hP, hD⟩ := (HS.out.set_ 4 (.int .i64 u) (kind2 := 1) (id2 := ny) (A2 := A4) (c2 := c4) (ys2 := zs) (gr2 := gb) (num2 := u) rfl HS.out.i HS.out.l).fin hwf
    have r0 := hP.cell (i := 0) rfl
    have r1 := hP.cell (i := 1) rfl
    have r2 := hP.cell (i := 2) rfl
    have r3 := hP.cell (i := 3) rfl
    have r4 := hP.cell (i := 4) rfl
    exact bodyPost_ret (v := .agg #[.int .i64 1, .int .i64 ny, .slice A4 zs.length c4, .bool gb, .int .i64 u]) (by simp [results, Try.results60, go_sem, r0, r1, r2, r3, r4]) rfl hD
  have htb : (t == 0) = false := by simpa using ht
  by_cases ht1 : t = 1
  · subst ht1
    go_wp2_with fail
    refine (pick_any g (p4 + 1 + 1) 7 wa HS.out.r (by omega) (by omega)).mono ?_; rintro e wb ⟨v, rfl, hv0, hv1, hR, hO, hs⟩
    replace HS := Lib.hid (HS.out.pick hO hR)
    clear hR hO hs
    have q0 := HS.out.q.cell (i := 0) rfl
    have q1 := HS.out.q.cell (i := 1) rfl
    have q2 := HS.out.q.cell (i := 2) rfl
    have q3 := HS.out.q.cell (i := 3) rfl
    have q4 := HS.out.q.cell (i := 4) rfl
    have f0 := HS.out.q.frozen 0
    have f1 := HS.out.q.frozen 1
    have f2 := HS.out.q.frozen 2
    have f3 := HS.out.q.frozen 3
    have f4 := HS.out.q.frozen 4
    have z0 := HS.out.z.cell (i := 0) rfl
    have z1 := HS.out.z.cell (i := 1) rfl
    have z2 := HS.out.z.cell (i := 2) rfl
    have z3 := HS.out.z.cell (i := 3) rfl
    have z4 := HS.out.z.cell (i := 4) rfl
    have y0 := HS.out.z.frozen 0
    have y1 := HS.out.z.frozen 1
    have y2 := HS.out.z.frozen 2
    have y3 := HS.out.z.frozen 3
    have y4 := HS.out.z.frozen 4
    go_wp2_with fail
    obtain ⟨wf, hwf⟩ : ∃ W, W = (((((wb.setCell ⟨w.heap.size + 2, 0, none⟩ (.int .i64 v)).setCell ⟨w.heap.size, 0, none⟩ (.int .i64 v)).setCell ⟨w.heap.size, 1, none⟩ (.int .i64 ny)).setCell ⟨w.heap.size, 2, none⟩ (.slice A4 zs.length c4)).setCell ⟨w.heap.size, 3, none⟩ (.bool gb)).setCell ⟨w.heap.size, 4, none⟩ (.int .i64 0) := ⟨_, rfl⟩
    rw [← hwf]
    obtain ⟨hP, hD⟩ := (HS.out.set_ 0 (.int .i64 v) (kind2 := v) (id2 := ny) (A2 := A4) (c2 := c4) (ys2 := zs) (gr2 := gb) (num2 := 0) rfl HS.out.i HS.out.l).fin hwf
    have r0 := hP.cell (i := 0) rfl
    have r1 := hP.cell (i := 1) rfl
    have r2 := hP.cell (i := 2) rfl
    have r3 := hP.cell (i := 3) rfl
    have r4 := hP.cell (i := 4) rfl
    exact bodyPost_ret (v := .agg #[.int .i64 v, .int .i64 ny, .slice A4 zs.length c4, .bool gb, .int .i64 0]) (by simp [results, Try.results60, go_sem, r0, r1, r2, r3, r4]) rfl hD
  have htb1 : (t == 1) = false := by simpa using ht1
  by_cases ht2 : t = 2
  · subst ht2
    obtain ⟨gx, hgx⟩ : ∃ b, (!gb) = b := ⟨_, rfl⟩
    have q0 := HS.out.q.cell (i := 0) rfl
    have q1 := HS.out.q.cell (i := 1) rfl
    have q2 := HS.out.q.cell (i := 2) rfl
    have q3 := HS.out.q.cell (i := 3) rfl
    have q4 := HS.out.q.cell (i := 4) rfl
    have f0 := HS.out.q.frozen 0
    have f1 := HS.out.q.frozen 1
    have f2 := HS.out.q.frozen 2
    have f3 := HS.out.q.frozen 3
    have f4 := HS.out.q.frozen 4
    have z0 := HS.out.z.cell (i := 0) rfl
    have z1 := HS.out.z.cell (i := 1) rfl
    have z2 := HS.out.z.cell (i := 2) rfl
    have z3 := HS.out.z.cell (i := 3) rfl
    have z4 := HS.out.z.cell (i := 4) rfl
    have y0 := HS.out.z.frozen 0
    have y1 := HS.out.z.frozen 1
    have y2 := HS.out.z.frozen 2
    have y3 := HS.out.z.frozen 3
    have y4 := HS.out.z.frozen 4
    go_wp2_with fail
    obtain ⟨wf, hwf⟩ : ∃ W, W = (((((wa.setCell ⟨w.heap.size + 2, 3, none⟩ (.bool gx)).setCell ⟨w.heap.size, 0, none⟩ (.int .i64 1)).setCell ⟨w.heap.size, 1, none⟩ (.int .i64 ny)).setCell ⟨w.heap.size, 2, none⟩ (.slice A4 zs.length c4)).setCell ⟨w.heap.size, 3, none⟩ (.bool gx)).setCell ⟨w.heap.size, 4, none⟩ (.int .i64 0) := ⟨_, rfl⟩
    rw [← hwf]
    obtain ⟨hP, hD⟩ := (HS.out.set_ 3 (.bool gx) (kind2 := 1) (id2 := ny) (A2 := A4) (c2 := c4) (ys2 := zs) (gr2 := gx) (num2 := 0) rfl HS.out.i HS.out.l).fin hwf
    have r0 := hP.cell (i := 0) rfl
    have r1 := hP.cell (i := 1) rfl
    have r2 := hP.cell (i := 2) rfl
    have r3 := hP.cell (i := 3) rfl
    have r4 := hP.cell (i := 4) rfl
    exact bodyPost_ret (v := .agg #[.int .i64 1, .int .i64 ny, .slice A4 zs.length c4, .bool gx, .int .i64 0]) (by simp [results, Try.results60, go_sem, r0, r1, r2, r3, r4]) rfl hD
  have htb2 : (t == 2) = false := by simpa using ht2
  have q0 := HS.out.q.cell (i := 0) rfl
  have q1 := HS.out.q.cell (i := 1) rfl
  have q2 := HS.out.q.cell (i := 2) rfl
  have q3 := HS.out.q.cell (i := 3) rfl
  have q4 := HS.out.q.cell (i := 4) rfl
  have f0 := HS.out.q.frozen 0
  have f1 := HS.out.q.frozen 1
  have f2 := HS.out.q.frozen 2
  have f3 := HS.out.q.frozen 3
  have f4 := HS.out.q.frozen 4
  have z0 := HS.out.z.cell (i := 0) rfl
  have z1 := HS.out.z.cell (i := 1) rfl
  have z2 := HS.out.z.cell (i := 2) rfl
  have z3 := HS.out.z.cell (i := 3) rfl
  have z4 := HS.out.z.cell (i := 4) rfl
  have y0 := HS.out.z.frozen 0
  have y1 := HS.out.z.frozen 1
  have y2 := HS.out.z.frozen 2
  have y3 := HS.out.z.frozen 3
  have y4 := HS.out.z.frozen 4
  go_wp2_with fail
  obtain ⟨wf, hwf⟩ : ∃ W, W = ((((wa.setCell ⟨w.heap.size, 0, none⟩ (.int .i64 1)).setCell ⟨w.heap.size, 1, none⟩ (.int .i64 ny)).setCell ⟨w.heap.size, 2, none⟩ (.slice A4 zs.length c4)).setCell ⟨w.heap.size, 3, none⟩ (.bool gb)).setCell ⟨w.heap.size, 4, none⟩ (.int .i64 0) := ⟨_, rfl⟩
  rw [← hwf]
  obtain ⟨hP, hD⟩ := HS.out.fin hwf
  have r0 := hP.cell (i := 0) rfl
  have r1 := hP.cell (i := 1) rfl
  have r2 := hP.cell (i := 2) rfl
  have r3 := hP.cell (i := 3) rfl
  have r4 := hP.cell (i := 4) rfl
  exact bodyPost_ret (v := .agg #[.int .i64 1, .int .i64 ny, .slice A4 zs.length c4, .bool gb, .int .i64 0]) (by simp [results, Try.results60, go_sem, r0, r1, r2, r3, r4]) rfl hD
theorem DrawRequestValid_any (A : Option Addr) (n c : Nat) (w : World) (hA : BytesR w w.heap.size A n) (hc : n ≤ c) (hm : c ≤ maxLen) :
    Calls Try.prog 32 #[.slice A n c] w fun e w' => ∃ kind id : Int, ∃ A c, ∃ ys : List Int, ∃ gr : Bool, ∃ num : Int, e = .returned (.agg #[.int .i64 kind, .int .i64 id, .slice A ys.length c, .bool gr, .int .i64 num]) ∧ Ints w' w.heap.size w'.heap.size A c ys ∧ ys.length ≤ 3 ∧ Below w.heap.size w w' := by
  have HA := Lib.hid hA; clear hA
  go_enter Try.func32, Try.ntmps32
  go_wp2_with fail
  have HZ : Hid (Blk (w.alloc (.cells #[.int .i64 0, .int .i64 0, .slice none 0 0, .bool false, .int .i64 0] 46)) w.heap.size 46 [.int .i64 0, .int .i64 0, .slice none 0 0, .bool false, .int .i64 0]) := Lib.hid (Blk.new w _ [.int .i64 0, .int .i64 0, .slice none 0 0, .bool false, .int .i64 0])
  have hb0 : Below w.heap.size w (w.alloc (.cells #[.int .i64 0, .int .i64 0, .slice none 0 0, .bool false, .int .i64 0] 46)) := (Below.refl _ _).alloc (Nat.le_refl _) _
  have hs0 : w.heap.size + 1 ≤ (w.alloc (.cells #[.int .i64 0, .int .i64 0, .slice none 0 0, .bool false, .int .i64 0] 46)).heap.size := by simp
  have HB0 := Lib.hid hb0
  have HA0 := Lib.hid ((HA.out.below hb0 (Nat.le_refl _)).mono (show w.heap.size ≤ (w.alloc (.cells #[.int .i64 0, .int .i64 0, .slice none 0 0, .bool false, .int .i64 0] 46)).heap.size by omega))
  clear hb0
  refine (l6Open_any A n c _ HA0.out hc hm).mono ?_; rintro e w1 ⟨g, rfl, hg, hR, hb⟩
  have HR := Lib.hid hR; clear hR
  have hs1 := hb.size
  replace HZ := Lib.hid (HZ.out.below hb (by omega))
  replace HB0 := Lib.hid (HB0.out.trans (hb.mono (by omega)))
  clear hb HA0
  have hg1 : w.heap.size + 1 ≤ g := by omega
  have hw1 : w.heap.size + 1 ≤ w1.heap.size := by omega
  clear hg hs0 hs1
  go_wp2_with fail
  refine (l92Request_any g 0 w1 HR.out (by omega)).mono ?_; rintro e w2 ⟨kind, id, A2, c2, ys, gr, num, rfl, hI, hl, hO⟩
  have hs2 := hO.size
  have HI := Lib.hid hI
  replace HZ := Lib.hid (HZ.out.only hO (.inl (by omega)))
  replace HB0 := Lib.hid (HB0.out.trans (hO.below (show w.heap.size ≤ g by omega) (by omega)))
  clear hI hO
  have z0 := HZ.out.cell (i := 0) rfl
  have z1 := HZ.out.cell (i := 1) rfl
  have z2 := HZ.out.cell (i := 2) rfl
  have z3 := HZ.out.cell (i := 3) rfl
  have z4 := HZ.out.cell (i := 4) rfl
  have y0 := HZ.out.frozen 0
  have y1 := HZ.out.frozen 1
  have y2 := HZ.out.frozen 2
  have y3 := HZ.out.frozen 3
  have y4 := HZ.out.frozen 4
  go_wp2_with fail
  obtain ⟨wf, hwf⟩ : ∃ W, W = ((((w2.setCell ⟨w.heap.size, 0, none⟩ (.int .i64 kind)).setCell ⟨w.heap.size, 1, none⟩ (.int .i64 id)).setCell ⟨w.heap.size, 2, none⟩ (.slice A2 ys.length c2)).setCell ⟨w.heap.size, 3, none⟩ (.bool gr)).setCell ⟨w.heap.size, 4, none⟩ (.int .i64 num) := ⟨_, rfl⟩
  rw [← hwf]
  have hP : Blk wf w.heap.size 46 [.int .i64 kind, .int .i64 id, .slice A2 ys.length c2, .bool gr, .int .i64 num] := by
    rw [hwf]
    exact ((((HZ.out.set_ 0 (.int .i64 kind)).set_ 1 (.int .i64 id)).set_ 2 (.slice A2 ys.length c2)).set_ 3 (.bool gr)).set_ 4 (.int .i64 num)
  have ho : Only w.heap.size (w.heap.size + 1) w2 wf := by
    rw [hwf]
    exact (((((Only.refl _ _ _).setCell (p := ⟨w.heap.size, 0, none⟩) (Nat.le_refl _) (by simp) _).setCell (p := ⟨w.heap.size, 1, none⟩) (Nat.le_refl _) (by simp) _).setCell (p := ⟨w.heap.size, 2, none⟩) (Nat.le_refl _) (by simp) _).setCell (p := ⟨w.heap.size, 3, none⟩) (Nat.le_refl _) (by simp) _).setCell (p := ⟨w.heap.size, 4, none⟩) (Nat.le_refl _) (by simp) _
  have hsf := ho.size
  have hfin := HB0.out.trans (ho.below (Nat.le_refl _) (show w.heap.size ≤ w2.heap.size by omega))
  have hIf := (HI.out.only ho (.inr (by omega)) (Nat.le_refl _)).mono (show w.heap.size ≤ w1.heap.size by omega) hsf
  have r0 := hP.cell (i := 0) rfl
  have r1 := hP.cell (i := 1) rfl
  have r2 := hP.cell (i := 2) rfl
  have r3 := hP.cell (i := 3) rfl
  have r4 := hP.cell (i := 4) rfl
  exact bodyPost_ret (v := .agg #[.int .i64 kind, .int .i64 id, .slice A2 ys.length c2, .bool gr, .int .i64 num]) (by simp [results, Try.results32, go_sem, r0, r1, r2, r3, r4]) rfl ⟨kind, id, A2, c2, ys, gr, num, rfl, hIf, hl, hfin⟩
end Go.Proofs.Ytojbljaleconpaa
