/- A command, opened to its cells; how small it is (Opn18's text, over this seat). -/
import Derived.Test.YtpanbijlfijgfaaDoorRows
import Derived.Test.YtpanbijlfijgfaaDoorCheck18
import Derived.SliceStrings
import Derived.Deep.Grids
import Derived.ChangeSame
import Derived.OpenShut
namespace Go.Proofs.YtpanbijlfijgfaaDoor.Opn
open Go.RowKit Go.ChangeShapes Go.WideShapes Go.Deep Go.Proofs.YtpanbijlfijgfaaDoor.Fnd

theorem bulk_mem {H : Type} {d : DataW H} : ∀ {l : List (DataW H)}, d ∈ l → Rows.uptoBulk d ≤ Rows.uptoBulkAll l
  | x :: l, h => by
    rcases List.mem_cons.1 h with rfl | h
    · simp [Rows.uptoBulkAll]
    · have := bulk_mem h
      simp only [Rows.uptoBulkAll]
      omega
theorem bulk_one {H : Type} : ∀ (d : DataW H), 1 ≤ Rows.uptoBulk d
  | .lit l => by cases l <;> simp [Rows.uptoBulk]
  | .nil => by simp [Rows.uptoBulk]
  | .ptr d => by simp [Rows.uptoBulk]
  | .slice _ _ => by simp [Rows.uptoBulk]
  | .agg _ => by simp [Rows.uptoBulk]
  | .iface _ _ => by simp [Rows.uptoBulk]
  | .map _ => by simp [Rows.uptoBulk]
  | .held _ => by simp [Rows.uptoBulk]
theorem bulk_len {H : Type} : ∀ (l : List (DataW H)), l.length ≤ Rows.uptoBulkAll l
  | [] => Nat.zero_le _
  | d :: l => by
    have h1 := bulk_len l
    have h2 := bulk_one d
    simp only [Rows.uptoBulkAll, List.length_cons]
    omega
theorem bulk_str {H : Type} {s : ByteArray} {ss : List ByteArray} (h : s ∈ ss) : s.size ≤ Rows.uptoBulkAll (strs ss : List (DataW H)) := by
  have h1 : (.lit (.string s.data.toList) : DataW H) ∈ (strs ss : List (DataW H)) := List.mem_map.2 ⟨s, h, rfl⟩
  have h2 := bulk_mem h1
  have h3 : s.data.toList.length = s.size := by rw [Array.length_toList]; rfl
  simp only [Rows.uptoBulk, h3] at h2
  omega

set_option maxRecDepth 100000 in
theorem open_cmd {H : Type} {enc : TypeId × Value → H} {w : World} {base : Nat} {held : Bool} {r : Reach} {b0 : Nat} {v : Value} {d : DataW H} {ps : List MemPlace}
    (hv : Value.okWide Tryd.prog w r b0 23 v) (h : DataW.Trod enc Tryd.prog w base (fun _ => true) held 23 v d ps) :
    ∃ p ss cap, v = .slice p ss.length cap ∧ ss.length ≤ cap ∧ Strs w p ss ∧ ss.length ≤ Rows.uptoBulk d ∧ ∀ s ∈ ss, s.size ≤ Rows.uptoBulk d := by
  obtain ⟨p, len, cap, rfl⟩ := okWide_slice Tryd.underlying23 hv
  obtain ⟨fuel, hf⟩ := h
  rcases open_strings Tryd.underlying23 Tryd.underlying9 (by kernel_rfl) hf with ⟨h0, _⟩ | ⟨a, l, c, ss, hcs, hb, hl, hm, hlen, hx, hc, _⟩
  · simp [Value.cells] at h0
    obtain ⟨rfl, rfl, rfl⟩ := h0
    exact ⟨none, [], 0, rfl, Nat.le_refl _, fun i hi => absurd hi (Nat.not_lt_zero _), Nat.zero_le _, fun s hs => by cases hs⟩
  · simp [Value.cells] at hcs
    obtain ⟨rfl, rfl, rfl⟩ := hcs
    rw [if_pos rfl] at hlen
    have htl : (ss.take len).length = len := by rw [List.length_take]; omega
    have hd : d = .slice (strs (ss.take len)) (strs (ss.drop len)) := congrArg Prod.fst hx
    refine ⟨some a, ss.take len, cap, by rw [htl], by rw [htl]; exact hl, ?_, ?_, ?_⟩
    · intro i hi
      have hi2 : i < len := by rw [htl] at hi; exact hi
      have h0 := hc 0 (by omega)
      obtain ⟨e, sz, hsh, _, hsp⟩ := World.shape?_of_cell? h0
      have hadd : a.add 0 = a := by simp [Addr.add]
      rw [hadd] at h0 hsp hsh
      obtain ⟨g, o, s⟩ := a
      simp at hsp
      subst hsp
      refine ⟨g, o, rfl, Lib.lt_of_cell h0, ?_⟩
      have h1 := hc i (by omega)
      rw [Addr.add_lit] at h1
      rw [h1]
      have : i < ss.length := by omega
      simp [List.getD, this]
    · rw [hd]
      have := bulk_len (strs (ss.take len) : List (DataW H))
      have e : (strs (ss.take len) : List (DataW H)).length = (ss.take len).length := by simp [strs]
      simp only [Rows.uptoBulk]
      omega
    · intro s hs
      rw [hd]
      have := bulk_str (H := H) hs
      simp only [Rows.uptoBulk]
      omega
end Go.Proofs.YtpanbijlfijgfaaDoor.Opn
