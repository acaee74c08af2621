/- A region that draws its order: a condition on the world that holds until one operation has come up. No condition. -/
import Derived.Deep.RegionHeld3
import Derived.Test.YtcmampicgdobcaaMem
namespace Go.Proofs.Ytcmampicgdobcaa
open Go.RowKit
/-- operation k waits for operation i, by an edge of its own -/
def waitsFor (md : Region.Mode) (ops : Array Oper) (k i : Nat) : Bool :=
  match ops[k]? with
  | some o => o.after.any fun e => Region.binds md e && e.on == i
  | none => false
/-- each of the list waits for the one ahead of it, the first for i -/
def chained (md : Region.Mode) (ops : Array Oper) : Nat → List Nat → Bool
  | _, [] => true
  | i, k :: r => waitsFor md ops k i && chained md ops k r
theorem not_ready_of_waits {md : Region.Mode} {ops : Array Oper} {k i : Nat} {l : Array Bool} (h : waitsFor md ops k i = true) (hi : l.getD i true = false) : k ∉ Region.ready md ops l := by
  intro hk
  obtain ⟨_, o, ho, hall⟩ := mem_ready.1 hk
  simp only [waitsFor, ho, Array.any_eq_true, Bool.and_eq_true, beq_iff_eq] at h
  obtain ⟨n, hn, hb, he⟩ := h
  have h1 := hall _ (Array.getElem_mem hn) hb
  rw [he] at h1
  simp only [Array.getD_eq_getD_getElem?] at h1 hi
  cases hl : l[i]? with
  | none => rw [hl] at hi; simp at hi
  | some v => rw [hl] at hi h1; simp at hi h1; rw [hi] at h1; cases h1
theorem chained_not_ready {md : Region.Mode} {ops : Array Oper} {l : Array Bool} : ∀ (c : List Nat) (i : Nat), chained md ops i c = true → l.getD i true = false → (∀ k, k ∈ c → l.getD k true = false) → ∀ k, k ∈ c → k ∉ Region.ready md ops l
  | [], _, _, _, _ => by simp
  | x :: r, i, h, hi, hl => by
    simp only [chained, Bool.and_eq_true] at h
    intro k hk
    rcases List.mem_cons.1 hk with rfl | hk
    · exact not_ready_of_waits h.1 hi
    · exact chained_not_ready r x h.2 (hl x (by simp)) (fun k hk => hl k (by simp [hk])) k hk
section
variable {P : Program} {md : Region.Mode} {ops : Array Oper} {Q : Exit → Act → World → Prop} {S : World → Prop} {u : Nat}
/-- whatever order is picked; S holds behind each operation as long as u has not come up -/
def wpAnyU (P : Program) (md : Region.Mode) (ops : Array Oper) (Q : Exit → Act → World → Prop) (S : World → Prop) (u : Nat) : Nat → Array Bool → Act → World → Prop
  | 0, l, a, w => Region.ready md ops l = [] ∧ Q .normal a w
  | f + 1, l, a, w => (Region.ready md ops l = [] → Q .normal a w) ∧
    ∀ i ∈ Region.ready md ops l, wpOp P ops Q i (fun a' w' => ((l.setIfInBounds i true).getD u true = false → S w') ∧ wpAnyU P md ops Q S u f (l.setIfInBounds i true) a' w') a w
theorem wpAnyU.any : ∀ (f : Nat) (l : Array Bool) (a : Act) (w : World), wpAnyU P md ops Q S u f l a w → wpAny P md ops Q f l a w
  | 0, _, _, _, h => h
  | f + 1, _, _, _, h => ⟨h.1, fun i hi => wpOp_mono (fun a' w' h' => wpAnyU.any f _ a' w' h'.2) (h.2 i hi)⟩
theorem wpAnyU.first {i : Nat} {oi : Oper} {v : Value} (hi : ops[i]? = some oi) (hs : Region.noSelect ops = true) (hQ : ∀ c a w, Q (.panic c) (a.put oi.dst v) w → Q (.panic c) a w) {c : List Nat} (hc : chained md ops i c = true) (hu : u ∈ c) :
    ∀ (f : Nat) (l : Array Bool) (a : Act) (w : World),
      (∀ j oj, ops[j]? = some oj → j ≠ i → l.getD j true = false → (∀ e ∈ oj.after, Region.binds md e = true → e.on ≠ i) → oi.apart ops oj = true) →
      (∀ k, k ∈ c → l.getD k true = false) → i ∈ Region.ready md ops l → YieldsIf P ops S oi v a → S w →
      wpAnyU P md ops Q S u f (l.setIfInBounds i true) (a.put oi.dst v) w → wpAnyU P md ops Q S u (f + 1) l a w := by
  intro f
  induction f with
  | zero =>
    intro l a w _ _ hr hy hS H
    refine ⟨fun h => absurd hr (by rw [h]; simp), fun j hj => ?_⟩
    by_cases e : j = i
    · subst e; exact hy.wpOp hi hS ⟨fun _ => hS, H⟩
    · have := ready_mono hj e
      rw [H.1] at this
      simp at this
  | succ f ih =>
    intro l a w hfree hcl hr hy hS H
    refine ⟨fun h => absurd hr (by rw [h]; simp), fun j hj => ?_⟩
    by_cases e : j = i
    · subst e; exact hy.wpOp hi hS ⟨fun _ => hS, H⟩
    · have hil := (mem_ready.1 hr).1
      have hjc : j ∉ c := fun h => chained_not_ready c i hc hil hcl j h hj
      have hju : j ≠ u := fun h => hjc (h ▸ hu)
      have hiu : i ≠ u := fun h => chained_not_ready c i hc hil hcl i (h ▸ hu) hr
      obtain ⟨hjun, oj, hoj, hall⟩ := mem_ready.1 hj
      have hnot : ∀ e ∈ oj.after, Region.binds md e = true → e.on ≠ i := fun x hx hb hxi =>
        not_ready_of_waits (md := md) (ops := ops) (k := j) (i := i) (by
          simp only [waitsFor, hoj, Array.any_eq_true, Bool.and_eq_true, beq_iff_eq]
          obtain ⟨n, hn, rfl⟩ := Array.getElem_of_mem hx
          exact ⟨n, hn, hb, hxi⟩) hil hj
      have h2 := wpOp_putIf hoj (hfree j oj hoj e hjun hnot) (fun cs b => Region.noSelect_spec hs i oi cs b hi) (fun cs b => Region.noSelect_spec hs j oj cs b hoj) hQ hy (H.2 j (ready_mono hj e))
      refine wpOp_mono (fun a' w' h3 => ?_) h2
      have huu : ((l.setIfInBounds i true).setIfInBounds j true).getD u true = false := by
        rw [getD_set_ne true hju, getD_set_ne true hiu]; exact hcl u hu
      have hS' := h3.2.1 huu
      refine ⟨fun _ => hS', ih _ a' w' (fun k ok hk hki hun hno => hfree k ok hk hki ?_ hno) (fun k hk => ?_) (ready_mono hr (Ne.symm e)) h3.1 hS' ?_⟩
      · by_cases hjk : j = k
        · subst hjk; exact hjun
        · rw [getD_set_ne true hjk] at hun; exact hun
      · have hjk : j ≠ k := fun h => hjc (by rw [h]; exact hk)
        rw [getD_set_ne true hjk]; exact hcl k hk
      · rw [Array.setIfInBounds_comm _ _ e]
        exact h3.2.2
/-- take number i first; the list says how u waits for it -/
theorem wpAnyU.take {i : Nat} (c : List Nat) {oi : Oper} {v : Value} {f : Nat} {l : Array Bool} {a : Act} {w : World} (hi : ops[i]? = some oi) (hs : Region.noSelect ops = true) (hf : Region.free md ops l i = true) (hr : (Region.ready md ops l).contains i = true)
    (hc : (chained md ops i c && c.contains u && c.all fun k => !(l.getD k true)) = true) (hQ : ∀ c a w, Q (.panic c) (a.put oi.dst v) w → Q (.panic c) a w) (hy : YieldsIf P ops S oi v a) (hS : S w)
    (h : wpAnyU P md ops Q S u f (l.setIfInBounds i true) (a.put oi.dst v) w) : wpAnyU P md ops Q S u (f + 1) l a w := by
  simp only [Bool.and_eq_true, List.contains_iff_mem, List.all_eq_true, Bool.not_eq_true'] at hc
  exact wpAnyU.first hi hs hQ hc.1.1 hc.1.2 f l a w (Region.free_spec hi hf) hc.2 (by simpa using hr) hy hS h
/-- take number i first, that yields in whatever world -/
theorem wpAnyU.firstP {i : Nat} {oi : Oper} {v : Value} (hi : ops[i]? = some oi) (hs : Region.noSelect ops = true) (hQ : ∀ c a w, Q (.panic c) (a.put oi.dst v) w → Q (.panic c) a w) (hu : i ≠ u) :
    ∀ (f : Nat) (l : Array Bool) (a : Act) (w : World),
      (∀ j oj, ops[j]? = some oj → j ≠ i → l.getD j true = false → (∀ e ∈ oj.after, Region.binds md e = true → e.on ≠ i) → oi.apart ops oj = true) →
      i ∈ Region.ready md ops l → YieldsIf P ops (fun _ => True) oi v a → (l.getD u true = false → S w) →
      wpAnyU P md ops Q S u f (l.setIfInBounds i true) (a.put oi.dst v) w → wpAnyU P md ops Q S u (f + 1) l a w := by
  intro f
  induction f with
  | zero =>
    intro l a w _ hr hy hS H
    refine ⟨fun h => absurd hr (by rw [h]; simp), fun j hj => ?_⟩
    by_cases e : j = i
    · subst e; exact hy.wpOp hi trivial ⟨fun h => hS (by rw [getD_set_ne true hu] at h; exact h), H⟩
    · have := ready_mono hj e
      rw [H.1] at this
      simp at this
  | succ f ih =>
    intro l a w hfree hr hy hS H
    refine ⟨fun h => absurd hr (by rw [h]; simp), fun j hj => ?_⟩
    by_cases e : j = i
    · subst e; exact hy.wpOp hi trivial ⟨fun h => hS (by rw [getD_set_ne true hu] at h; exact h), H⟩
    · have hil := (mem_ready.1 hr).1
      obtain ⟨hjun, oj, hoj, hall⟩ := mem_ready.1 hj
      have hnot : ∀ e ∈ oj.after, Region.binds md e = true → e.on ≠ i := fun x hx hb hxi =>
        not_ready_of_waits (md := md) (ops := ops) (k := j) (i := i) (by
          simp only [waitsFor, hoj, Array.any_eq_true, Bool.and_eq_true, beq_iff_eq]
          obtain ⟨n, hn, rfl⟩ := Array.getElem_of_mem hx
          exact ⟨n, hn, hb, hxi⟩) hil hj
      have h2 := wpOp_putIf hoj (hfree j oj hoj e hjun hnot) (fun cs b => Region.noSelect_spec hs i oi cs b hi) (fun cs b => Region.noSelect_spec hs j oj cs b hoj) hQ hy (H.2 j (ready_mono hj e))
      refine wpOp_mono (fun a' w' h3 => ?_) h2
      have hS' : (l.setIfInBounds j true).getD u true = false → S w' := fun h => h3.2.1 (by
        rw [Array.setIfInBounds_comm _ _ (Ne.symm e), getD_set_ne true hu]; exact h)
      refine ⟨hS', ih _ a' w' (fun k ok hk hki hun hno => hfree k ok hk hki ?_ hno) (ready_mono hr (Ne.symm e)) h3.1 hS' ?_⟩
      · by_cases hjk : j = k
        · subst hjk; exact hjun
        · rw [getD_set_ne true hjk] at hun; exact hun
      · rw [Array.setIfInBounds_comm _ _ e]
        exact h3.2.2
theorem wpAnyU.pure_ {i : Nat} {oi : Oper} {v : Value} {f : Nat} {l : Array Bool} {a : Act} {w : World} (hi : ops[i]? = some oi) (hs : Region.noSelect ops = true) (hf : Region.free md ops l i = true) (hr : (Region.ready md ops l).contains i = true)
    (hu : i ≠ u) (hQ : ∀ c a w, Q (.panic c) (a.put oi.dst v) w → Q (.panic c) a w) (hy : YieldsIf P ops (fun _ => True) oi v a) (hS : l.getD u true = false → S w)
    (h : wpAnyU P md ops Q S u f (l.setIfInBounds i true) (a.put oi.dst v) w) : wpAnyU P md ops Q S u (f + 1) l a w :=
  wpAnyU.firstP hi hs hQ hu f l a w (Region.free_spec hi hf) (by simpa using hr) hy hS h
/-- the only one that may come up; S is shown behind it if u is still to come -/
theorem wpAnyU.one {i : Nat} {o : Oper} {f : Nat} {l : Array Bool} {a : Act} {w : World} (hr : Region.ready md ops l = [i]) (hi : ops[i]? = some o)
    (h : ∀ K' : Act → World → Prop, Shut (∀ a w, ((l.setIfInBounds i true).getD u true = false → S w) → (((l.setIfInBounds i true).getD u true = false → S w) → wpAnyU P md ops Q S u f (l.setIfInBounds i true) a w) → K' a w) → if Region.wanted o (yielded ops a.tmps) = true then Oper.wp P o a w K' Q else K' (a.put o.dst undef) w) : wpAnyU P md ops Q S u (f + 1) l a w := by
  refine ⟨fun h0 => by rw [hr] at h0; simp at h0, fun j hj => ?_⟩
  rw [hr] at hj
  simp only [List.mem_singleton] at hj
  subst hj
  exact wpOp_step hi fun K' hK => h K' fun a w hS hW => hK a w ⟨hS, hW hS⟩
theorem wpAnyU.done {l : Array Bool} {a : Act} {w : World} (hr : Region.ready md ops l = []) (h : Q .normal a w) : ∀ f, wpAnyU P md ops Q S u f l a w
  | 0 => ⟨hr, h⟩
  | _ + 1 => ⟨fun _ => h, by rw [hr]; simp⟩
theorem wp_region_U (S : World → Prop) (u : Nat) {id : Nat} {a : Act} {w : World} (hm : P.follows .mixedOrders = true) (hS : S w.drew)
    (h : S w.drew → wpAnyU P .any ops Q S u ops.size (Array.replicate ops.size false) a w.drew) : (Code.region id ops true).wp P Q a w :=
  wp_region_any hm (wpAnyU.any _ _ _ _ (h hS))
end
end Go.Proofs.Ytcmampicgdobcaa
