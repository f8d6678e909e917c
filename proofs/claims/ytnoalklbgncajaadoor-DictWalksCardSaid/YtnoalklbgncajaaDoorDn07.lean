/- Chapter 07: a new dict. -/
import Derived.Test.YtnoalklbgncajaaDoorDm07
namespace Go.Proofs.YtnoalklbgncajaaDoor.Dct
open Go Go.RowKit Go.Proofs.YtnoalklbgncajaaDoor.Pin Go.Proofs.YtnoalklbgncajaaDoor.Mps Go.Proofs.YtnoalklbgncajaaDoor.Bok Go.Proofs.YtnoalklbgncajaaDoor.Uw Go.Proofs.YtnoalklbgncajaaDoor.Sip
attribute [local go_sem high] run_store_U cells_U eqGuard_U asIntOf_U
theorem minfo : (Tryd.prog.info? 52).map (fun i => (i.zero, i.size, i.bytes)) = some (some (.map none), 1, 8) := by kernel_rfl
/-- a row made for a table: so many places, all nil -/
theorem made_tab {w : World} {B g n : Nat} (h : w.ownsRow B 52 1 (.slice (some ⟨g, 0, none⟩) n n) n (List.replicate n (.map none))) : TabAt w g (List.replicate n none) := by
  rcases h.2 with ⟨k, _⟩ | ⟨g', cap, cur, e, _, hg, h1, _, h2, h3⟩
  · simp at k
  · cases e
    refine ⟨?_, fun x hx b l e => ?_⟩
    · have hc : cur.toList = List.replicate n (.map none) := by
        rw [← h3, List.take_of_length_le (by rw [Array.length_toList, h2]; exact Nat.le_refl _)]
      rw [hg]
      congr 2
      rw [List.map_replicate, show plV none = .map none from rfl, ← hc]
    · have := List.eq_of_mem_replicate hx
      rw [this] at e
      cases e
set_option maxHeartbeats 1000000 in
set_option maxRecDepth 100000 in
theorem new_any (sd : BitVec 64) (w : World) : Calls Tryd.prog 6 #[U sd] w fun e w' => ∃ d a, e = .returned (.pointer (some ⟨d, 0, none⟩)) ∧ DAt w' d ⟨sd, a, List.replicate 4 none, none, 0, 0⟩ ∧ w.heap.size ≤ a ∧ w.heap.size ≤ d ∧ Below w.heap.size w w' := by
  obtain ⟨i0, hi, hz0, hz1, hz2⟩ := info_parts minfo
  have HI := Lib.hid hi
  have HZ0 := Lib.hid hz0
  have HZ1 := Lib.hid hz1
  have HZ2 := Lib.hid hz2
  clear hi hz0 hz1 hz2
  go_enter Tryd.func6, Tryd.ntmps6
  go_wp2_with (at_make; refine wpList_make_full _ rfl _ _ 48 rfl w.heap.size 52 i0 (.map none) 1 Tryd.underlying48 HI.out HZ0.out HZ1.out .i64 .i64 4 4 4 rfl rfl rfl rfl ?c1 ?c2 ?c3 ?_)
  case c1 => rw [HZ2.out]; omega
  case c2 => unfold maxLen; omega
  case c3 => exact Nat.le_refl _
  intro w1 hown hgr
  have ht := made_tab (n := 4) (by rw [toList_madeCells_one] at hown; exact hown)
  have HT := Lib.hid ht
  have HB := Lib.hid ((Below.refl w.heap.size w).grown hgr (Nat.le_refl _) (fun b e => by cases e))
  have HGL := Lib.hid (hown.lt w.heap.size rfl).2
  clear hown hgr ht
  go_wp2_with fail
  go_ret
  refine ⟨w1.heap.size, w.heap.size, rfl, ⟨heap_alloc_new w1 _, HT.out.frm (own := fun _ => False) ((Frm.refl _).alloc _) id (fun _ _ => id), fun x hx => by (cases hx), ?_, by simp, fun x hx => by (cases hx)⟩, Nat.le_refl _, HB.out.size, HB.out.alloc HB.out.size _⟩
  have h1 := HGL.out
  have h2 : blks (List.replicate 4 (none : Pl)) = [] := rfl
  simp only [St.own, h2]
  simp
  omega
end Go.Proofs.YtnoalklbgncajaaDoor.Dct
