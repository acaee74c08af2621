/- Plain facts for the statements on bounds. No program. -/
import Derived.Test.YtlkhfmpkbjemhaaBa
namespace Go.Proofs.Ytlkhfmpkbjemhaa
open Go.RowKit
theorem tsum_no {room : List Int} {ps : List (Int × List Int)} (h : tasksB room ps = false) : tsum room ps = -1 := by rw [tsum, if_neg (by simp [h])]
theorem boundS_no' {room : List Int} {ps : List (Int × List Int)} (h : tasksB room ps = false) : boundS room ps = -1 := by rw [boundS, if_neg (by simp [h])]
theorem apartI_no' {room : List Int} {ps : List (Int × List Int)} (h : tasksB room ps = false) : apartI room ps = -1 := by rw [apartI, if_neg (by simp [h])]
theorem tsum_lo {room : List Int} {ps : List (Int × List Int)} (h : tasksB room ps = true) : 0 ≤ tsum room ps := by
  obtain ⟨x, y, z, rfl, hx, hy, hz, hl⟩ := tasks_load h
  rw [tsum, if_pos h]
  have h0 := hl 0
  have h1 := hl 1
  have h2 := hl 2
  simp only [loadL, List.sum_cons, List.sum_nil]
  omega
theorem apartI_lo {room : List Int} {ps : List (Int × List Int)} (h : tasksB room ps = true) : 0 ≤ apartI room ps := by
  rw [apartI, if_pos h]; omega
theorem bestI_lo {room : List Int} {ps : List (Int × List Int)} (h : tasksB room ps = true) : 0 ≤ bestI room ps := by
  have := (boundS_bd h).1
  unfold bestI; omega
theorem bestI_hi {room : List Int} {ps : List (Int × List Int)} (h : tasksB room ps = true) : bestI room ps ≤ ps.length := by
  have := (boundS_bd h).2
  have := (apartI_bd (room := room) (ps := ps)).2
  unfold bestI; omega
theorem apartI_last {room : List Int} {ps : List (Int × List Int)} {k : Nat} (h : tasksB room ps = true) (hk : ps.length = k + 1) : apartI room (ps.take k) = apartI room ps ∨ apartI room (ps.take k) = apartI room ps - 1 := by
  have hp : ps[k]? = some ps[k] := List.getElem?_eq_getElem (by omega)
  have e : ps = ps.take k ++ [ps[k]] := by
    have := take_succ_some hp
    rw [List.take_of_length_le (by omega)] at this
    exact this
  have e2 : ps.map Prod.snd = (ps.take k).map Prod.snd ++ [ps[k].2] := (congrArg (List.map Prod.snd) e).trans (by rw [List.map_append]; rfl)
  rw [apartI, if_pos (tasks_take h k), apartI, if_pos h, apartL_snoc e2]
  rcases @apartF_len room (apartL room ((ps.take k).map Prod.snd)) ps[k].2 with h1 | h1
  · left; rw [h1]
  · right; rw [h1]; omega
end Go.Proofs.Ytlkhfmpkbjemhaa
