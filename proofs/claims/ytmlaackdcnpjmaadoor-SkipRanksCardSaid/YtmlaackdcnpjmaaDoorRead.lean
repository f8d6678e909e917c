/- What can be read as data, read as plain data: slices, structs and texts, however they lie in one another; how small they are. Over any program. -/
import Derived.Deep.Slices
import Derived.Deep.Fields
import Derived.ChangeSame
import Derived.SizedLaws
import Derived.OpenShut
import Derived.Lib.SmallJoins
import Derived.WalkKit
namespace Go.Proofs.YtmlaackdcnpjmaaDoor.Rdg
open Go.RowKit Go.ChangeShapes Go.WideShapes Go.Deep
section
variable {H : Type} {enc : TypeId × Value → H} {P : Program} {w : World} {held : Bool} {α β : Type}
/-- whatever reads as a T is the cells of some a -/
def Rd (enc : TypeId × Value → H) (P : Program) (w : World) (held : Bool) (t : TypeId) (At : α → List Value → Prop) : Prop :=
  ∀ (fuel : Nat) (cs : List Value) (x : DataW H × List MemPlace), DataW.trod enc P w 0 (fun _ => true) held fuel t cs = some x → (∀ n ∈ x.1.weights P t, n ≤ reachBytes) → ∃ a, At a cs
theorem Rd.of {t : TypeId} {At : α → List Value → Prop} {Bt : β → List Value → Prop} (h : Rd enc P w held t At) (hb : ∀ a cs, At a cs → ∃ b, Bt b cs) : Rd enc P w held t Bt := fun fuel cs x h1 h2 => let ⟨a, ha⟩ := h fuel cs x h1 h2; hb a cs ha
def StrAt (s : ByteArray) (cs : List Value) : Prop := cs = [.string s] ∧ s.size ≤ 140737488351232
theorem rd_string {t : TypeId} (ht : P.underlying t = some .string) : Rd enc P w held t StrAt := by
  intro fuel cs x h hz
  obtain ⟨s, rfl, rfl, _⟩ := DataW.trod_string ht h
  refine ⟨s, rfl, ?_⟩
  have := hz s.data.toList.length (by simp [DataW.weights])
  rw [Array.length_toList] at this
  exact this
def NatAt (k : IntKind) (M : Nat) (n : Nat) (cs : List Value) : Prop := cs = [.int k (n : Int)] ∧ n < M
theorem rd_nat {t : TypeId} {k : IntKind} {M : Nat} (ht : P.underlying t = some (.int k)) (h0 : k.min = 0) (h1 : k.max + 1 = (M : Int)) : Rd enc P w held t (NatAt k M) := by
  intro fuel cs x h _
  obtain ⟨n, rfl, rfl, hw⟩ := DataW.trod_int ht h
  simp only [Lit.wf, Bool.and_eq_true, decide_eq_true_eq] at hw
  refine ⟨n.toNat, ?_, by omega⟩
  rw [show ((n.toNat : Nat) : Int) = n by omega]
def IntAt (k : IntKind) (n : Int) (cs : List Value) : Prop := cs = [.int k n] ∧ k.min ≤ n ∧ n ≤ k.max
theorem rd_int {t : TypeId} {k : IntKind} (ht : P.underlying t = some (.int k)) : Rd enc P w held t (IntAt k) := by
  intro fuel cs x h _
  obtain ⟨n, rfl, rfl, hw⟩ := DataW.trod_int ht h
  simp only [Lit.wf, Bool.and_eq_true, decide_eq_true_eq] at hw
  exact ⟨n, rfl, hw⟩
def BoolAt (b : Bool) (cs : List Value) : Prop := cs = [.bool b]
theorem rd_bool {t : TypeId} (ht : P.underlying t = some .bool) : Rd enc P w held t BoolAt := by
  intro fuel cs x h _
  obtain ⟨b, h1, _⟩ := DataW.trod_bool ht h
  exact ⟨b, h1⟩
def FltAt (n : Nat) (cs : List Value) : Prop := cs = [.float .f64 n] ∧ n < 18446744073709551616
theorem rd_float {t : TypeId} (ht : P.underlying t = some (.float .f64)) : Rd enc P w held t FltAt := by
  intro fuel cs x h _
  cases fuel with
  | zero => simp [DataW.trod] at h
  | succ fuel =>
    unfold DataW.trod at h
    rw [ht] at h
    split at h <;> simp_all [FltAt]
    rename_i heq
    subst heq
    simpa [Lit.wf] using h.1.2
def SlAt (w : World) (C : Nat) (At : α → List Value → Prop) (l : List α) (cs : List Value) : Prop :=
  ∃ A c, cs = [.slice A l.length c] ∧ l.length ≤ 140737488351232 ∧ (0 < l.length → ∃ r o, A = some ⟨r, o, none⟩ ∧ r < w.heap.size ∧ ∀ j (h : j < l.length), ∃ cs', At l[j] cs' ∧ cs'.length = C ∧ ∀ i u, cs'[i]? = some u → w.cell? ⟨r, o + j * C + i, none⟩ = some u)
theorem weightsAll_mem : ∀ {ds : List (DataW H)} {d : DataW H} {t : TypeId}, d ∈ ds → ∀ n ∈ d.weights P t, n ∈ DataW.weightsAll P t ds
  | d0 :: ds, d, t, hd, n, hn => by
    simp only [DataW.weightsAll, List.mem_append]
    rcases List.mem_cons.1 hd with rfl | hd
    · exact .inl hn
    · exact .inr (weightsAll_mem hd n hn)
theorem rd_slice {t e : TypeId} {C b : Nat} {At : α → List Value → Prop} (ht : P.underlying t = some (.slice e)) (hC : P.cellsOf e = C) (hC0 : 0 < C) (hb : P.bytesOf e = b) (hb0 : 0 < b) (h : Rd enc P w held e At) : Rd enc P w held t (SlAt w C At) := by
  intro fuel cs x hx hz
  rcases open_slice ht hx with ⟨rfl, rfl⟩ | ⟨a, len, cap, m, n, D, Pl, rfl, _, hl, hm, hmm, rfl, hi⟩
  · exact ⟨[], none, 0, rfl, Nat.zero_le _, fun h => absurd h (Nat.lt_irrefl _)⟩
  · simp only [if_true] at hmm
    simp only [DataW.weights, ht] at hz
    have hz1 := hz _ List.mem_cons_self
    rw [hb] at hz1
    simp only [List.length_map, List.length_range] at hz1
    have hlen : len ≤ 140737488351232 := by
      have h2 : len + (m - len) ≤ (len + (m - len)) * b := Nat.le_mul_of_pos_right _ hb0
      unfold reachBytes at hz1
      omega
    rw [hC] at hi
    have each : ∀ i : Fin len, ∃ z : α, ∃ cs', At z cs' ∧ cs'.length = C ∧ (∀ k u, cs'[k]? = some u → w.cell? ((a.add (i.1 * C)).add k) = some u) := by
      intro ⟨i, hlt⟩
      obtain ⟨cs', hc, ht'⟩ := hi i (by omega)
      obtain ⟨z, hz2⟩ := h _ _ _ ht' (fun k hk => hz k (by
        simp only [List.mem_cons, List.mem_append]
        exact .inr (.inl (weightsAll_mem (List.mem_map.2 ⟨i, List.mem_range.2 hlt, rfl⟩) k hk))))
      obtain ⟨_, hcl, hat⟩ := World.cells?_some hc
      exact ⟨z, cs', hz2, hcl, fun k u hu => by
        have hk : k < C := by have := (List.getElem?_eq_some_iff.1 hu).1; omega
        rw [hat k hk, hu]⟩
    obtain ⟨f, hf⟩ := Classical.axiomOfChoice each
    refine ⟨List.ofFn f, some a, cap, by simp, by simpa using hlen, fun h0 => ?_⟩
    have h0' : 0 < len := by simpa using h0
    obtain ⟨cs0, _, hl0, hat0⟩ := hf ⟨0, h0'⟩
    have hx0 := hat0 0 (cs0[0]'(by omega)) (by simp)
    have hsp : ∃ g o, a = ⟨g, o, none⟩ ∧ g < w.heap.size := by
      have hadd : (a.add (0 * C)).add 0 = a := by simp [Addr.add]
      rw [hadd] at hx0
      obtain ⟨e', sz, hsh, _, hsp⟩ := World.shape?_of_cell? hx0
      obtain ⟨g, o, s⟩ := a
      simp at hsp
      subst hsp
      exact ⟨g, o, rfl, World.block_lt_of_cell? w _ hx0⟩
    obtain ⟨g, o, rfl, hg⟩ := hsp
    refine ⟨g, o, rfl, hg, fun j hj => ?_⟩
    have hj' : j < len := by simpa using hj
    obtain ⟨cs', h1, h2, h3⟩ := hf ⟨j, hj'⟩
    refine ⟨cs', by simpa using h1, h2, fun i u hu => ?_⟩
    have := h3 i u hu
    simpa [Addr.add_lit] using this
/-- a struct's field -/
theorem struct_field {t : TypeId} {fs : Array Field} {fuel : Nat} {cs : List Value} {x : DataW H × List MemPlace} (ht : P.underlying t = some (.struct fs)) (h : DataW.trod enc P w 0 (fun _ => true) held fuel t cs = some x) (hz : ∀ n ∈ x.1.weights P t, n ≤ reachBytes) :
    cs.length = P.cellsOf t ∧ ∀ (i : Nat) (f : Field), fs[i]? = some f → ∀ (e o c : Nat), f.type = e → f.offset = o → P.cellsOf e = c → ∀ (At : α → List Value → Prop), Rd enc P w held e At → ∃ a, At a ((cs.drop o).take c) := by
  obtain ⟨xs, n, rfl, rfl, hl, hlen, hf⟩ := DataW.trod_struct ht h
  refine ⟨hl, fun i f hi e o c he ho hc At hrd => ?_⟩
  subst he ho hc
  have h1 := hf i f hi
  have hil : i < xs.length := by rw [hlen]; exact (Array.getElem?_eq_some_iff.1 hi).1
  have hx : xs[i]? = some xs[i] := List.getElem?_eq_getElem hil
  rw [hx] at h1
  refine hrd _ _ _ h1 fun k hk => hz k ?_
  simp only [DataW.weights, ht]
  exact DataW.weights_mem_each (j := i) (by rw [List.getElem?_map, Array.getElem?_toList, hi]; rfl) (by rw [List.getElem?_map, hx]; rfl) k hk
end
end Go.Proofs.YtmlaackdcnpjmaaDoor.Rdg
