/- Own clusters: what is changed in place. No condition. -/
import Derived.Test.YtcmampicgdobcaaDe
namespace Go.Proofs.Ytcmampicgdobcaa
open Go.RowKit
theorem bflat_set_le {bs : List BinV} {j m : Nat} {x b : BinV} (hx : bs[j]? = some x) (hb : b.ts.length ≤ x.ts.length + m) : (bflat (bs.set j b)).length ≤ (bflat bs).length + m := by
  induction bs generalizing j with
  | nil => simp at hx
  | cons y r ih =>
    cases j with
    | zero =>
      simp at hx; subst hx
      simp only [List.set_cons_zero, bflat, List.flatMap_cons, List.length_append]; omega
    | succ j =>
      have h := ih (j := j) (by simpa using hx)
      simp only [List.set_cons_succ, bflat, List.flatMap_cons, List.length_append] at h ⊢
      omega
theorem map_set_same {α β : Type} {f : α → β} {l : List α} {k : Nat} {x y : α} (hx : l[k]? = some x) (h : f y = f x) : (l.set k y).map f = l.map f := by
  rw [List.map_set, h]
  apply List.ext_getElem?
  intro i
  rw [List.getElem?_set]
  split
  · rename_i hik
    subst hik
    split
    · rw [List.getElem?_map, hx]; rfl
    · rename_i h1
      rw [List.getElem?_eq_none (by omega)]
  · rfl
/-- the shape of a cluster: sizes and needs -/
structure CluOk (N : Nat) (room : List Int) (us : List UniV) : Prop where
  room3 : us ≠ [] → room.length = 3
  roomle : room.length ≤ 3
  few : us.length ≤ 10
  many : (bflat (us.map ubin)).length ≤ N
  good : ∀ u, u ∈ us → ∀ t, t ∈ u.ts → GoodN t.need
theorem CluOk.mono {N M : Nat} {room : List Int} {us : List UniV} (h : CluOk N room us) (hm : N ≤ M) : CluOk M room us := ⟨h.room3, h.roomle, h.few, Nat.le_trans h.many hm, h.good⟩
theorem CluOk.each {N : Nat} {room : List Int} {us : List UniV} (h : CluOk N room us) : ∀ u, u ∈ us → u.ts.length ≤ N := by
  intro u hu
  refine Nat.le_trans ?_ h.many
  obtain ⟨k, hk⟩ := List.getElem?_of_mem hu
  have h1 : (us.map ubin)[k]? = some (ubin u) := by rw [List.getElem?_map, hk]; rfl
  have h2 := bflat_len (bs := us.map ubin) (k + 1)
  rw [bflat_snoc h1, List.length_append] at h2
  have h3 : (ubin u).ts.length = u.ts.length := rfl
  omega
theorem CluOk.need {N : Nat} {room : List Int} {us : List UniV} (h : CluOk N room us) : ∀ u, u ∈ us → ∀ t, t ∈ u.ts → t.need.length ≤ 1000 := fun u hu t ht => by
  have := (h.good u hu t ht).1; omega
theorem CluOk.needB {N : Nat} {room : List Int} {us : List UniV} (h : CluOk N room us) : ∀ t, t ∈ bflat (us.map ubin) → t.need.length ≤ 1000 := fun t ht => by
  obtain ⟨u, hu, h1⟩ := bflat_ubin_mem ht
  exact h.need u hu t h1
/-- one unit is replaced -/
theorem CluOk.put {N m k : Nat} {room : List Int} {us : List UniV} {u v : UniV} (h : CluOk N room us) (hx : us[k]? = some u) (hl : v.ts.length ≤ u.ts.length + m) (hg : ∀ t, t ∈ v.ts → GoodN t.need) : CluOk (N + m) room (us.set k v) := by
  refine ⟨fun hn => h.room3 (by rintro rfl; simp at hx), h.roomle, by rw [List.length_set]; exact h.few, ?_, fun x hx2 => ?_⟩
  · rw [List.map_set]
    exact Nat.le_trans (bflat_set_le (x := ubin u) (by rw [List.getElem?_map, hx]; rfl) hl) (by have := h.many; omega)
  · rcases List.mem_or_eq_of_mem_set hx2 with h1 | rfl
    · exact h.good x h1
    · exact hg
theorem CluOk.op {N k : Nat} {room : List Int} {us : List UniV} {u : UniV} (h : CluOk N room us) (hx : us[k]? = some u) (b : Bool) : CluOk N room (us.set k { u with op := b }) :=
  h.put (m := 0) hx (Nat.le_refl _) (h.good u (List.mem_of_getElem? hx))
/-- the same data elsewhere -/
theorem CluOk.same {N : Nat} {room : List Int} {us vs : List UniV} (h : CluOk N room us) (he : vs.map (fun u => (u.op, u.ts.map pv)) = us.map (fun u => (u.op, u.ts.map pv))) : CluOk N room vs := by
  have hl : vs.length = us.length := by have := congrArg List.length he; simpa using this
  have hb : ∀ (l m : List UniV), l.map (fun u => (u.op, u.ts.map pv)) = m.map (fun u => (u.op, u.ts.map pv)) → (bflat (l.map ubin)).map pv = (bflat (m.map ubin)).map pv := by
    intro l
    induction l with
    | nil => intro m hm; cases m with
      | nil => rfl
      | cons a r => simp at hm
    | cons a r ih => intro m hm; cases m with
      | nil => simp at hm
      | cons b s =>
        simp only [List.map_cons, List.cons.injEq, Prod.mk.injEq] at hm
        have := ih s hm.2
        simp only [List.map_cons, bflat, List.flatMap_cons, List.map_append] at this ⊢
        rw [this]
        show a.ts.map pv ++ _ = b.ts.map pv ++ _
        rw [hm.1.2]
  have hbe := hb vs us he
  refine ⟨fun hn => h.room3 (by rintro rfl; simp at hl; exact hn hl), h.roomle, by rw [hl]; exact h.few, ?_, fun u hu t ht => ?_⟩
  · have := congrArg List.length hbe; simp only [List.length_map] at this; rw [this]; exact h.many
  · have h1 : pv t ∈ (bflat (vs.map ubin)).map pv := List.mem_map.2 ⟨t, List.mem_flatMap.2 ⟨ubin u, List.mem_map.2 ⟨u, hu, rfl⟩, ht⟩, rfl⟩
    rw [hbe] at h1
    obtain ⟨t2, h2, h3⟩ := List.mem_map.1 h1
    obtain ⟨u2, h4, h5⟩ := bflat_ubin_mem h2
    have h6 := h.good u2 h4 t2 h5
    simp only [pv, Prod.mk.injEq] at h3
    rw [h3.2] at h6; exact h6
/-- an own cluster: its room and units in blocks from base on -/
def Clu (w : World) (base N : Nat) (v : Value) : Prop :=
  ∃ A c B d, ∃ room : List Int, ∃ us : List UniV, v = .agg #[.slice A room.length c, .slice B us.length d] ∧ IntsE 3 w base w.heap.size A c room ∧ OwnU w base B d us ∧ CluOk N room us
theorem Clu.below {w w' : World} {base N : Nat} {v : Value} (h : Clu w base N v) (hb : Below w.heap.size w w') : Clu w' base N v := by
  obtain ⟨A, c, B, d, room, us, rfl, h1, h2, h3⟩ := h
  exact ⟨A, c, B, d, room, us, rfl, h1.step hb, h2.below hb, h3⟩
theorem Clu.only {w w' : World} {lo hi base N : Nat} {v : Value} (h : Clu w base N v) (hb : Only lo hi w w') (hd : hi ≤ base) : Clu w' base N v := by
  obtain ⟨A, c, B, d, room, us, rfl, h1, h2, h3⟩ := h
  exact ⟨A, c, B, d, room, us, rfl, (h1.only hb (.inr hd) (Nat.le_refl _)).mono (Nat.le_refl _) hb.size, h2.only hb hd, h3⟩
theorem Clu.mono {w : World} {base base' N M : Nat} {v : Value} (h : Clu w base N v) (hb : base' ≤ base) (hm : N ≤ M) : Clu w base' M v := by
  obtain ⟨A, c, B, d, room, us, rfl, h1, h2, h3⟩ := h
  exact ⟨A, c, B, d, room, us, rfl, h1.mono hb (Nat.le_refl _), h2.mono hb, h3.mono hm⟩
theorem Clu.zero (w : World) (base N : Nat) : Clu w base N (.agg #[.slice none 0 0, .slice none 0 0]) :=
  ⟨none, 0, none, 0, [], [], rfl, ⟨⟨by simp, by simp [maxLen], .inl rfl⟩, by simp⟩, ⟨⟨rfl, .inl ⟨rfl, rfl⟩⟩, by simp, fun i j x y _ hx => by simp at hx⟩, ⟨by simp, by simp, by simp, by simp [bflat], by simp⟩⟩
/-- the row of one unit is changed: others stand -/
theorem OwnU.put {w w9 : World} {base q d k : Nat} {us : List UniV} {u : UniV} {na : Option Addr} {nc : Nat} {nts : List TaskV} (h : OwnU w base (some ⟨q, 0, none⟩) d us) (hx : us[k]? = some u)
    (hrow : w9.ownsRow base 48 2 (.slice (some ⟨q, 0, none⟩) us.length d) us.length (urowT us)) (heach : ∀ j x, j ≠ k → us[j]? = some x → OwnT w9 base x.a x.c x.ts) (hN : OwnT w9 base na nc nts)
    (hd : ∀ j x, j ≠ k → us[j]? = some x → ∀ g, (bcell (ubin x)).ownBlock = some g → (Value.slice na nts.length nc).ownBlock ≠ some g) :
    OwnU (w9.setCell ⟨q, k * 2 + 1, none⟩ (.slice na nts.length nc)) base (some ⟨q, 0, none⟩) d (us.set k ⟨u.op, na, nc, nts⟩) := by
  have hgr := grown_set w9 q (k * 2 + 1) (.slice na nts.length nc)
  have hout : ∀ a c ts, OwnT w9 base a c ts → OwnT (w9.setCell ⟨q, k * 2 + 1, none⟩ (.slice na nts.length nc)) base a c ts := fun a c ts hT =>
    hT.grown (v := .slice (some ⟨q, 0, none⟩) us.length d) hgr hrow (by simp [World.setCell]) (by decide) (fun g h1 h2 => own_ne2 hT.1 hrow (by decide) g h1 h2)
  refine ⟨?_, fun x hx2 => ?_, ?_⟩
  · have h1 := (hrow.stored (k * 2 + 1) (.slice na nts.length nc)).1
    rw [urowT_set1 hx] at h1
    rw [List.length_set]; exact h1
  · obtain ⟨i, hi⟩ := List.getElem?_of_mem hx2
    rw [List.getElem?_set] at hi
    split at hi
    · split at hi
      · obtain rfl := Option.some.inj hi
        exact hout _ _ _ hN
      · cases hi
    · rename_i hij
      exact hout _ _ _ (heach i x (fun e => hij e.symm) hi)
  · rw [List.map_set]
    refine h.dist.set_ fun j y hj hy g hg => ?_
    rw [List.getElem?_map] at hy
    cases hj2 : us[j]? with
    | none => rw [hj2] at hy; cases hy
    | some x =>
      rw [hj2] at hy
      obtain rfl := Option.some.inj hy
      exact hd j x hj hj2 g hg
/-- a task is appended to the tasks of one unit -/
theorem OwnU.append {w w9 : World} {base q d k q2 d2 : Nat} {us : List UniV} {u : UniV} {t : TaskV} (h : OwnU w base (some ⟨q, 0, none⟩) d us) (hx : us[k]? = some u) (hT : IntsE 3 w base w.heap.size t.a t.c t.need)
    (hW : w9.ownsRow base 62 2 (.slice (some ⟨q2, 0, none⟩) (u.ts.length + 1) d2) (u.ts.length + 1) (trow u.ts ++ tcells t)) (hG : w.grownBy w9 (Value.slice u.a u.ts.length u.c).ownBlock) (hs : w.heap.size ≤ w9.heap.size)
    (hQ : (Value.slice u.a u.ts.length u.c).ownBlock = some q2 ∨ w.heap.size < q2) :
    OwnU (w9.setCell ⟨q, k * 2 + 1, none⟩ (.slice (some ⟨q2, 0, none⟩) (u.ts.length + 1) d2)) base (some ⟨q, 0, none⟩) d (us.set k ⟨u.op, some ⟨q2, 0, none⟩, d2, u.ts ++ [t]⟩) := by
  have hum := List.mem_of_getElem? hx
  have hou := (h.each u hum).1
  have hl : (u.ts ++ [t]).length = u.ts.length + 1 := by simp
  have := h.put (w9 := w9) (na := some ⟨q2, 0, none⟩) (nc := d2) (nts := u.ts ++ [t]) hx (ownsRow_grown h.row hG (own_ne2 h.row hou (by decide)))
    (fun j x hj hjx => (h.each x (List.mem_of_getElem? hjx)).grown hG hou hs (by decide) (fun g h1 => h.dist j k (ubin x) (ubin u) hj (by rw [List.getElem?_map, hjx]; rfl) (by rw [List.getElem?_map, hx]; rfl) g h1))
    ⟨by rw [hl, trow_app]; simpa [trow] using hW, fun x hx2 => by
      have hI : IntsE 3 w base w.heap.size x.a x.c x.need := by
        rcases List.mem_append.1 hx2 with h1 | h1
        · exact (h.each u hum).2 x h1
        · simp only [List.mem_singleton] at h1; subst h1; exact hT
      exact (hI.grown hG hou (by decide)).mono (Nat.le_refl _) hs⟩
    (fun j x hj hjx g hg h2 => by
      simp only [Value.ownBlock, Option.some.injEq] at h2
      subst h2
      rcases hQ with h3 | h3
      · exact h.dist j k (ubin x) (ubin u) hj (by rw [List.getElem?_map, hjx]; rfl) (by rw [List.getElem?_map, hx]; rfl) _ hg h3
      · have := ((h.each x (List.mem_of_getElem? hjx)).1.lt _ hg).2
        omega)
  rw [hl] at this; exact this
/-- a unit is opened or closed -/
theorem OwnU.setOp {w : World} {base q d k : Nat} {us : List UniV} {u : UniV} (h : OwnU w base (some ⟨q, 0, none⟩) d us) (hx : us[k]? = some u) (v : Bool) :
    OwnU (w.setCell ⟨q, k * 2, none⟩ (.bool v)) base (some ⟨q, 0, none⟩) d (us.set k { u with op := v }) := by
  have hgr := grown_set w q (k * 2) (.bool v)
  have hout : ∀ a c ts, OwnT w base a c ts → OwnT (w.setCell ⟨q, k * 2, none⟩ (.bool v)) base a c ts := fun a c ts hT =>
    hT.grown (v := .slice (some ⟨q, 0, none⟩) us.length d) hgr h.row (by simp [World.setCell]) (by decide) (fun g h1 h2 => own_ne2 hT.1 h.row (by decide) g h1 h2)
  refine ⟨?_, fun x hx2 => ?_, ?_⟩
  · have h1 := (h.row.stored (k * 2) (.bool v)).1
    rw [urowT_set0 hx] at h1
    rw [List.length_set]; exact h1
  · rcases List.mem_or_eq_of_mem_set hx2 with h1 | rfl
    · exact hout _ _ _ (h.each x h1)
    · exact hout _ _ _ (h.each u (List.mem_of_getElem? hx))
  · rw [map_set_same (f := ubin) (y := { u with op := v }) hx rfl]; exact h.dist
/-- ints of their own stand over a change in a row of another type -/
theorem IntsE.set_ {w : World} {lo hi c q i base e2 s n : Nat} {e : TypeId} {A : Option Addr} {ys : List Int} {x : Nat} {y : Nat} {xs : List Value} (h : IntsE e w lo hi A c ys) (ho : w.ownsRow base e2 s (.slice (some ⟨q, 0, none⟩) x y) n xs) (hne : e2 ≠ e) (v : Value) : IntsE e (w.setCell ⟨q, i, none⟩ v) lo hi A c ys :=
  h.grown (v := .slice (some ⟨q, 0, none⟩) x y) (grown_set w q i v) ho hne
/-- the cells of one unit -/
theorem OwnU.spot {w : World} {base d k : Nat} {B : Option Addr} {us : List UniV} (h : OwnU w base B d us) (hk : k < us.length) :
    ∃ q u, B = some ⟨q, 0, none⟩ ∧ us[k]? = some u ∧ w.cell? ⟨q, k * 2, none⟩ = some (.bool u.op) ∧ w.cell? ⟨q, k * 2 + 1, none⟩ = some (.slice u.a u.ts.length u.c) ∧ (∀ i, w.frozen? ⟨q, i, none⟩ = false) ∧ base ≤ q ∧ q < w.heap.size := by
  have hp : us[k]? = some us[k] := List.getElem?_eq_getElem hk
  obtain ⟨e1, e2⟩ := urowT_at hp
  rcases h.row.2 with ⟨_, h0⟩ | ⟨q, cap, cur, he, _⟩
  · omega
  · simp only [Value.slice.injEq] at he
    obtain ⟨rfl, -⟩ := he
    have hl := h.row.lt q rfl
    exact ⟨q, us[k], rfl, hp, by rw [h.row.cellAt _ (by omega)]; exact e1, by rw [h.row.cellAt _ (by omega)]; exact e2, fun i => h.row.frozenAt i, hl.1, hl.2⟩
theorem Clu.far {w : World} {base N g i : Nat} {t : TypeId} {cs : List Value} {v : Value} (h : Clu w base N v) (hb : Blk w g t cs) (h1 : 48 ≠ t) (h2 : 62 ≠ t) (h3 : 3 ≠ t) (u : Value) : Clu (w.setCell ⟨g, i, none⟩ u) base N v := by
  obtain ⟨A, c, B, d, room, us, rfl, k1, k2, k3⟩ := h
  exact ⟨A, c, B, d, room, us, rfl, (k1.far hb h3 u).mono (Nat.le_refl _) (by simp [World.setCell]), k2.far hb h1 h2 h3 u, k3⟩
/-- an own cluster is copied into the result's cells -/
theorem clu_ret {w W : World} {base N z : Nat} {va vb : Value} {cs : List Value} (hZ : Blk W z 28 cs) (hc : cs.length = 2) (h : Clu W base N (.agg #[va, vb])) (hb : Below base w W) (hz : base ≤ z) :
    ∃ wf, wf = (W.setCell ⟨z, 0, none⟩ va).setCell ⟨z, 1, none⟩ vb ∧ wf.cell? ⟨z, 0, none⟩ = some va ∧ wf.cell? ⟨z, 1, none⟩ = some vb ∧ Clu wf base N (.agg #[va, vb]) ∧ Below base w wf := by
  obtain ⟨x, y, rfl⟩ : ∃ x y, cs = [x, y] := by
    match cs, hc with
    | [x, y], _ => exact ⟨x, y, rfl⟩
  have h1 := hZ.set_ 0 va
  have h2 := h1.set_ 1 vb
  refine ⟨_, rfl, h2.cell (i := 0) rfl, h2.cell (i := 1) rfl, (h.far hZ (by decide) (by decide) (by decide) va).far h1 (by decide) (by decide) (by decide) vb, ?_⟩
  exact (hb.setCell (p := ⟨z, 0, none⟩) hz va).setCell (p := ⟨z, 1, none⟩) hz vb
end Go.Proofs.Ytcmampicgdobcaa
