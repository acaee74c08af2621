/- Copies of tasks: own rows whose needs lie in blocks of ints. No condition but on sizes. -/
import Derived.Test.YtcmampicgdobcaaDn
import Derived.Test.YtcmampicgdobcaaCm
namespace Go.Proofs.Ytcmampicgdobcaa
open Go.RowKit
theorem cell_belowT {B b o : Nat} {w w' : World} {v : Value} (h : Below B w w') (hq : b < B) (hc : w.cell? ⟨b, o, none⟩ = some v) : w'.cell? ⟨b, o, none⟩ = some v := (h.cell (p := ⟨b, o, none⟩) hq).trans hc
theorem two_cellsT (i : Int) (a : Option Addr) (n c : Nat) : ∀ u ∈ [Value.int .i64 i, Value.slice a n c], u.oneCell' = true := by
  intro u hu
  simp only [List.mem_cons, List.mem_nil_iff, or_false] at hu
  rcases hu with rfl | rfl <;> rfl
theorem Ints.grown {w w' : World} {lo hi c : Nat} {A : Option Addr} {ys : List Int} {row : Option Nat} (h : Ints w lo hi A c ys) (hg : w.grownBy w' row) (hne : ∀ b, A.map (·.block) = some b → ys ≠ [] → row ≠ some b) : Ints w' lo hi A c ys := by
  refine ⟨h.1, h.2.1, ?_⟩
  rcases h.2.2 with h | ⟨b, off, rfl, h2, h3, h4⟩
  · exact .inl h
  · refine .inr ⟨b, off, rfl, h2, h3, fun j y hj => ?_⟩
    obtain ⟨k1, k2⟩ := h4 j y hj
    have hb : w'.heap[b]? = w.heap[b]? := hg.block b (World.block_lt_of_cell? w _ k1) (fun e => hne b rfl (by rintro rfl; simp at hj) e.symm)
    exact ⟨(World.cell?_of_block (a := ⟨b, off + j, none⟩) hb).trans k1, (World.frozen?_of_block (a := ⟨b, off + j, none⟩) hb).trans k2⟩
/-- ints in a block of elements of type e -/
def IntsE (e : TypeId) (w : World) (lo hi : Nat) (A : Option Addr) (c : Nat) (ys : List Int) : Prop :=
  Ints w lo hi A c ys ∧ ∀ b, A.map (·.block) = some b → ys ≠ [] → ∃ cur z, w.heap[b]? = some (.cells cur e z)
section
variable {w w' : World} {lo hi lo' hi' B c : Nat} {A : Option Addr} {ys : List Int} {e : TypeId}
theorem IntsE.below (h : IntsE e w lo hi A c ys) (hb : Below B w w') (hB : hi ≤ B) : IntsE e w' lo hi A c ys := by
  refine ⟨h.1.below hb hB, fun b hA hy => ?_⟩
  obtain ⟨cur, z, hc⟩ := h.2 b hA hy
  rcases h.1.2.2 with h | ⟨b', off, rfl, h2, h3, h4⟩
  · exact absurd h hy
  · simp at hA; subst hA
    exact ⟨cur, z, by rw [hb.block b' (by omega)]; exact hc⟩
theorem IntsE.mono (h : IntsE e w lo hi A c ys) (h1 : lo' ≤ lo) (h2 : hi ≤ hi') : IntsE e w lo' hi' A c ys := ⟨h.1.mono h1 h2, h.2⟩
theorem IntsE.step (h : IntsE e w lo w.heap.size A c ys) (hb : Below w.heap.size w w') : IntsE e w' lo w'.heap.size A c ys := (h.below hb (Nat.le_refl _)).mono (Nat.le_refl _) hb.size
theorem IntsE.grown {base e2 s n : Nat} {v : Value} {xs : List Value} (h : IntsE e w lo hi A c ys) (hg : w.grownBy w' v.ownBlock) (ho : w.ownsRow base e2 s v n xs) (hne : e2 ≠ e) : IntsE e w' lo hi A c ys := by
  have key : ∀ b, A.map (·.block) = some b → ys ≠ [] → v.ownBlock ≠ some b := fun b hA hy h2 => by
    obtain ⟨cur, z, hc⟩ := h.2 b hA hy
    rcases ho.2 with ⟨rfl, _⟩ | ⟨g, cap, cu2, rfl, _, k, _⟩
    · simp [Value.ownBlock] at h2
    · simp only [Value.ownBlock, Option.some.injEq] at h2
      subst h2
      rw [k] at hc
      simp only [Option.some.injEq, Obj.cells.injEq] at hc
      exact hne hc.2.1
  refine ⟨h.1.grown hg key, fun b hA hy => ?_⟩
  obtain ⟨cur, z, hc⟩ := h.2 b hA hy
  exact ⟨cur, z, by rw [hg.block b (Array.getElem?_eq_some_iff.1 hc).1 (fun e => key b hA hy e.symm)]; exact hc⟩
theorem IntsE.of_own {base : Nat} {v : Value} {n : Nat} (h : w.ownsRow base e 1 v n (ys.map (Value.int .i64))) : ∃ A c, v = .slice A ys.length c ∧ n = ys.length ∧ IntsE e w base w.heap.size A c ys := by
  obtain ⟨A, c, rfl, h2, h3⟩ := Ints.of_own h
  refine ⟨A, c, rfl, h2, h3, fun b hA hy => ?_⟩
  rcases h.2 with ⟨h4, _⟩ | ⟨g, cap, cu2, h4, _, k, _⟩
  · simp only [Value.slice.injEq] at h4
    obtain ⟨rfl, -⟩ := h4
    simp at hA
  · simp only [Value.slice.injEq] at h4
    obtain ⟨rfl, -⟩ := h4
    simp at hA; subst hA
    exact ⟨_, _, k⟩
theorem IntsE.only {l h : Nat} (k : IntsE e w l h A c ys) (a : Only lo hi w w') (hd : h ≤ lo ∨ hi ≤ l) (hs : h ≤ w.heap.size) : IntsE e w' l h A c ys := by
  refine ⟨k.1.only a hd hs, fun b hA hy => ?_⟩
  obtain ⟨cur, z, hc⟩ := k.2 b hA hy
  rcases k.1.2.2 with h | ⟨b', off, rfl, h2, h3, h4⟩
  · exact absurd h hy
  · simp at hA; subst hA
    exact ⟨cur, z, by rw [a.block b' (by omega) (by omega)]; exact hc⟩
end
section
variable {P : Program}
theorem step_appI {t e : TypeId} (E : Elem P t e 1 8) {ops : Array Oper} {o : Oper} {a : Act} {K : Act → World → Prop} {Q : Exit → Act → World → Prop} {D : Prop} (hgd : o.guard = none) (s x : Operand)
    (ho : o.op = .call { callee := .builtin .append, args := #[s, x], argTypes := #[t, t] })
    {base n hi : Nat} {v : Value} {xs : List Value} (w : World) (hown : w.ownsRow base e 1 v n xs)
    (A : Option Addr) (m c : Nat) (ys : List Int) (hs : a.eval s = v) (hx : a.eval x = .slice A m c) (hm : m = ys.length) (hI : IntsR w hi A ys) (hbase : base ≤ w.heap.size) (hn : n + m ≤ 1099511627776)
    (h : ∀ A' c' w', w'.ownsRow base e 1 (.slice A' (n + m) c') (n + m) (xs ++ ys.map (Value.int .i64)) → Below base w w' → w.grownBy w' v.ownBlock → K (a.put o.dst (.slice A' (n + m) c')) w') :
    if Region.wanted o (yielded ops a.tmps) = true then Oper.wp P o a w K Q else D := by
  have hw : Region.wanted o (yielded ops a.tmps) = true := by simp [Region.wanted, hgd]
  rw [if_pos hw]
  exact wp_appI E s x ho w hown A m c ys hs hx hm hI hbase hn h
end
/-- an own row of tasks, their needs in blocks of ints -/
def OwnT (w : World) (base : Nat) (A : Option Addr) (c : Nat) (us : List TaskV) : Prop :=
  w.ownsRow base 62 2 (.slice A us.length c) us.length (trow us) ∧ ∀ t, t ∈ us → IntsE 3 w base w.heap.size t.a t.c t.need
theorem OwnT.tasks {w : World} {base c : Nat} {A : Option Addr} {us : List TaskV} (h : OwnT w base A c us) : Tasks w base w.heap.size A c us := by
  obtain ⟨A9, c9, he, hT⟩ := Tasks.of_own h.1 (fun t ht => (h.2 t ht).1)
  simp only [Value.slice.injEq, true_and] at he
  obtain ⟨rfl, rfl⟩ := he
  exact hT
set_option maxHeartbeats 2000000 in
theorem l2Copy_any (A : Option Addr) (c lo hi : Nat) (ts : List TaskV) (w : World) (hT : Tasks w lo hi A c ts) (hl : ts.length ≤ 1000) (hn : ∀ t, t ∈ ts → t.need.length ≤ 1000) (h1 : hi ≤ w.heap.size) :
    Calls Try.prog 64 #[.slice A ts.length c] w fun e w' => ∃ g c', ∃ us : List TaskV, e = .returned (.slice (some ⟨g, 0, none⟩) us.length c') ∧ us.map pv = ts.map pv ∧ OwnT w' w.heap.size (some ⟨g, 0, none⟩) c' us ∧ Below w.heap.size w w' := by
  have HT := Lib.hid hT; clear hT
  have HN := Lib.hid hn; clear hn
  have HO0 := Lib.hid (ownsRow_empty w 62 2)
  go_enter Try.func64, Try.ntmps64
  go_wp2_with fail
  go_loopw [3, 4] (fun o i wr => ∃ k g d : Nat, ∃ us : List TaskV, k ≤ ts.length ∧ i = .int .i64 k ∧ o = .slice (some ⟨g, 0, none⟩) us.length d ∧ us.map pv = (ts.take k).map pv ∧ us.length ≤ k ∧ OwnT wr w.heap.size (some ⟨g, 0, none⟩) d us ∧ Below w.heap.size w wr) (fun _ i _ => ts.length - (intOf i).toNat)
  case atStart => exact ⟨0, w.heap.size, 0, [], by omega, rfl, rfl, by simp, by simp, ⟨HO0.out, by simp⟩, (Below.refl _ _).alloc (Nat.le_refl _) _⟩
  case round =>
    obtain ⟨k, g, d, us, hk, rfl, rfl, hpv, hul, hown, hb⟩ := hrel
    have HPV := Lib.hid hpv
    have HO := Lib.hid hown
    have HB := Lib.hid hb
    have hsr := hb.size
    clear hpv hown hb
    by_cases hlt : k < ts.length
    · have hklt : (k : Int) < ts.length := by omega
      obtain ⟨b, off, t, rfl, ht, hc1, hc2, htl, hth, hI⟩ := (HT.out.below HB.out h1).at_ hlt
      have HI := Lib.hid hI
      have hnl := HN.out t (List.mem_of_getElem? ht)
      have HTK := Lib.hid ht
      clear hI ht
      obtain ⟨wa, hwa⟩ : ∃ W, W = (wr.alloc (.cells #[] 3)).drew := ⟨_, rfl⟩
      have hba : Below wr.heap.size wr wa := by rw [hwa]; exact ((Below.refl _ _).alloc (Nat.le_refl _) _).drew
      have hsa : wr.heap.size + 1 ≤ wa.heap.size := by rw [hwa]; show _ ≤ (wr.alloc _).heap.size; simp
      have HE : Hid (wa.ownsRow wr.heap.size 3 1 (.slice (some ⟨wr.heap.size, 0, none⟩) 0 0) 0 []) := Lib.hid (by rw [hwa]; exact ownsRow_heap (ownsRow_empty wr 3 1) rfl)
      have HWa := Lib.hid hwa
      have HBa := Lib.hid hba
      have HIa := Lib.hid (HI.out.below hba (by omega))
      have HOa := Lib.hid (ownsRow_below HO.out.1 hba)
      have g1a := cell_belowT hba (show b < wr.heap.size by omega) hc1
      have g2a := cell_belowT hba (show b < wr.heap.size by omega) hc2
      clear hwa hba
      go_wp2_with fail
      go_region_held3 (fun w' => w'.cell? ⟨b, off + k * 2, none⟩ = some (.int .i64 t.id) ∧ w'.cell? ⟨b, off + k * 2 + 1, none⟩ = some (.slice t.a t.need.length t.c)) (go_keep)
        (first
          | (rw [← HWa.out]; refine step_appI elI rfl (.tmp 18) (.tmp 23) rfl wa HE.out t.a t.need.length t.c t.need rfl rfl rfl HIa.out.r (by omega) (by omega) ?_; intro A2 c2 w4 hown2 hb2 hg2; rw [Nat.zero_add] at hown2 ⊢; have HW2 := Lib.hid hown2; have HB2 := Lib.hid hb2; have HG2 := Lib.hid hg2; have HO4 := Lib.hid (ownsRow_grown HOa.out hg2 (fun g hg => own_ne2 HOa.out HE.out (by decide) g hg)); have hs4 := hb2.size; have g1 := cell_belowT hb2 (show b < wr.heap.size by omega) g1a; have g2 := cell_belowT hb2 (show b < wr.heap.size by omega) g2a; clear hown2 hb2 hg2)
          | (refine step_app1 elT rfl (.tmp 12) (.tmp 26) rfl w4 _ HO4.out [.int .i64 t.id, .slice A2 t.need.length c2] rfl rfl ⟨rfl, rfl, rfl, rfl⟩ rfl (two_cellsT _ _ _ _) (by omega) (by simp only [maxLen]; omega) (by omega) ?_; intro q2 d2 w9 hown3 hb3 hg3 hsz3 hq3; have g1 := cell_belowT hb3 (show b < w.heap.size by omega) g1; have g2 := cell_belowT hb3 (show b < w.heap.size by omega) g2; have HW9 := Lib.hid hown3; have HB9 := Lib.hid hb3; have HG9 := Lib.hid hg3; clear hown3 hb3 hg3 hsz3 hq3))
      obtain ⟨A8, c8, he8, -, hE8⟩ := IntsE.of_own (e := 3) (ys := t.need) (by simpa using HW2.out)
      simp only [Value.slice.injEq, true_and] at he8
      obtain ⟨rfl, rfl⟩ := he8
      have HE8 := Lib.hid hE8
      have hs9 := HB9.out.size
      clear hE8
      go_wp2_with fail
      refine ⟨?_, by simp [intOf]; omega⟩
      · refine ⟨k + 1, q2, d2, us ++ [⟨t.id, A2, c2, t.need⟩], by omega, by go_num, by simp, ?_, by simp; omega, ⟨?_, fun u hu => ?_⟩, HB.out.trans ((HBa.out.mono hsr).trans ((HB2.out.mono hsr).trans HB9.out))⟩
        · rw [take_succ_some HTK.out, List.map_append, List.map_append, HPV.out]; rfl
        · rw [List.length_append, trow_app]; exact HW9.out
        · rcases List.mem_append.1 hu with h | h
          · have h9 := ((HO.out.2 u h).below HBa.out (Nat.le_refl _)).below HB2.out (Nat.le_refl _)
            exact (h9.grown HG9.out HO4.out (by decide)).mono (Nat.le_refl _) (by omega)
          · simp only [List.mem_singleton] at h; subst h
            exact (HE8.out.grown HG9.out HO4.out (by decide)).mono hsr hs9
    · obtain rfl : k = ts.length := by omega
      go_wp2_with fail
      go_ret
      exact ⟨g, d, us, by simp, by rw [HPV.out, List.take_length], HO.out, HB.out⟩
end Go.Proofs.Ytcmampicgdobcaa
