/- Tasks that are apart: BoundApart, BoundBest. No condition but on sizes. -/
import Derived.Test.YtcmampicgdobcaaBd
import Derived.Test.YtcmampicgdobcaaDu
namespace Go.Proofs.Ytcmampicgdobcaa
open Go.RowKit
theorem cell_below {B b o : Nat} {w w' : World} {v : Value} (h : Below B w w') (hq : b < B) (hc : w.cell? ⟨b, o, none⟩ = some v) : w'.cell? ⟨b, o, none⟩ = some v := (h.cell (p := ⟨b, o, none⟩) hq).trans hc
theorem apart_step {room : List Int} {ts tk : List TaskV} {k : Nat} {t : TaskV} (h : needs tk = apartL room (needs (ts.take k))) (ht : ts[k]? = some t) :
    apartL room (needs (ts.take (k + 1))) = if (needs tk).all (fun y => clashB room t.need y) then needs (tk ++ [t]) else needs tk := by
  rw [apartL_snoc (needs_snoc ht), ← h, apartF]
  simp [needs]
theorem needs_at {ts : List TaskV} {k : Nat} {t : TaskV} (h : ts[k]? = some t) : (needs ts)[k]? = some t.need := by
  rw [needs, List.getElem?_map, h]; rfl
theorem all_take_snoc' {α : Type} {l : List α} {k : Nat} {y : α} {p : α → Bool} (h : l[k]? = some y) : (l.take (k + 1)).all p = ((l.take k).all p && p y) := by
  rw [take_succ_some h, List.all_append]; simp
theorem all_false_mem {α : Type} {l : List α} {k : Nat} {y : α} {p : α → Bool} (h : l[k]? = some y) (hp : p y = false) : l.all p = false := by
  rw [List.all_eq_false]; exact ⟨y, List.mem_of_getElem? h, by simp [hp]⟩
theorem apartI_yes {room : List Int} {ts : List TaskV} (h : tasksB room (ts.map pv) = true) : apartI room (ts.map pv) = ((apartL room (needs ts)).length : Int) := by rw [apartI, if_pos h, needs_pv]
theorem apartI_no {room : List Int} {ts : List TaskV} (h : tasksB room (ts.map pv) = false) : apartI room (ts.map pv) = -1 := by rw [apartI, if_neg (by simp [h])]
