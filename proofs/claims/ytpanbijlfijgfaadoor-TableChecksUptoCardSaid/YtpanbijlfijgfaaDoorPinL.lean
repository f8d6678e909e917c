/- The pinned walk of a region whose last operation stands on all the others: what the others fix need not hold behind the last one. Over any program. -/
import Derived.Test.YtpanbijlfijgfaaDoorPin
namespace Go.Proofs.YtpanbijlfijgfaaDoor.Pin
open Go Go.RowKit
section
variable {P : Program} {S : World → Prop} {c : Nat → Nat}
/-- no guards; each stands on earlier ones alone -/
def backB (l : List Oper) : Bool := (List.range l.length).all fun k => ((l[k]?).map fun x => x.guard.isNone && x.after.all fun e => decide (e.on < k)).getD false
/-- it stands on all of them -/
def onB (x : Oper) (k : Nat) : Bool := x.after.any fun e => Region.binds .any e && (e.on == k)
def behindB (l : List Oper) (o : Oper) : Bool := (o.guard.isNone && o.after.all fun e => decide (e.on < l.length)) && (List.range l.length).all fun k => onB o k || (List.range l.length).any fun m => onB o m && ((l[m]?).map fun x => onB x k).getD false
theorem onB_at {x : Oper} {k : Nat} (h : onB x k = true) : ∃ e ∈ x.after, Region.binds .any e = true ∧ e.on = k := by
  obtain ⟨e, he, h2⟩ := Array.any_eq_true'.1 h
  simp only [Bool.and_eq_true, beq_iff_eq] at h2
  exact ⟨e, he, h2.1, h2.2⟩
theorem back_at {l : List Oper} (h : backB l = true) {k : Nat} {x : Oper} (hx : l[k]? = some x) : x.guard = none ∧ ∀ e ∈ x.after, e.on < k := by
  have hk : k < l.length := (List.getElem?_eq_some_iff.1 hx).1
  have := List.all_eq_true.1 h k (List.mem_range.2 hk)
  rw [hx] at this
  simp only [Option.map_some, Option.getD_some, Bool.and_eq_true, Option.isNone_iff_eq_none] at this
  refine ⟨this.1, fun e he => ?_⟩
  have h2 := Array.all_eq_true_iff_forall_mem.1 this.2 e he
  simpa using h2
theorem wanted_none {o : Oper} (h : o.guard = none) (y : Nat → Option Bool) : Region.wanted o y = true := by simp [Region.wanted, h]
theorem snoc_at {l : List Oper} {o : Oper} {i : Nat} (hi : i < l.length) : ((l ++ [o]).toArray)[i]? = l[i]? := by
  simp [List.getElem?_append_left hi]
theorem snoc_last {l : List Oper} {o : Oper} : ((l ++ [o]).toArray)[l.length]? = some o := by simp
theorem push_at {listed : Array Bool} {n i : Nat} (hs : listed.size = n) (hi : i < n) (d : Bool) : (listed.push false).getD i d = listed.getD i d := by
  simp [Array.getD, hs, hi, Array.getElem_push, Nat.lt_succ_of_lt hi]
theorem push_last {listed : Array Bool} {n : Nat} (hs : listed.size = n) (d : Bool) : (listed.push false).getD n d = false := by
  subst hs
  simp [Array.getD]
/-- so many are not listed yet -/
def Unl (listed : Array Bool) (n f : Nat) : Prop := listed.size = n ∧ ((List.range n).filter fun i => !listed.getD i true).length = f
theorem filt_one {n i : Nat} {p q : Nat → Bool} (hi : i < n) (hp : p i = true) (hq : q i = false) (hne : ∀ j, j ≠ i → q j = p j) : ((List.range n).filter q).length + 1 = ((List.range n).filter p).length := by
  induction n with
  | zero => omega
  | succ n ih =>
    rw [List.range_succ, List.filter_append, List.filter_append, List.length_append, List.length_append]
    by_cases e : i = n
    · subst e
      have e2 : (List.range i).filter q = (List.range i).filter p := List.filter_congr fun j hj => hne j (by have := List.mem_range.1 hj; omega)
      rw [e2]
      simp [hp, hq]
    · have := ih (by omega)
      have e3 : q n = p n := hne n (fun h => e h.symm)
      have e4 : (List.filter q [n]).length = (List.filter p [n]).length := by simp [List.filter_cons, e3]
      omega
theorem Unl.step {listed : Array Bool} {n f i : Nat} (h : Unl listed n (f + 1)) (hi : i < n) (h0 : listed.getD i true = false) : Unl (listed.setIfInBounds i true) n f := by
  refine ⟨by simpa using h.1, ?_⟩
  have := filt_one (n := n) (i := i) (p := fun j => !listed.getD j true) (q := fun j => !(listed.setIfInBounds i true).getD j true) hi (by simp [h0]) (by
    have hs := h.1
    simp [Array.getD, hs, hi]) (fun j hj => by
    by_cases hjn : j < n
    · have hs := h.1
      simp [Array.getD, hs, hjn, Ne.symm hj]
    · have hs := h.1
      simp [Array.getD, hs, hjn])
  rw [h.2] at this
  omega
theorem Unl.none {listed : Array Bool} {n : Nat} (h : Unl listed n 0) {i : Nat} (hi : i < n) (d : Bool) : listed.getD i d = true := by
  have h2 := h.2
  rw [List.length_eq_zero_iff, List.filter_eq_nil_iff] at h2
  have := h2 i (List.mem_range.2 hi)
  have hs := h.1
  simp only [Array.getD, hs, hi, dif_pos] at this ⊢
  simpa using this
theorem Unl.some {listed : Array Bool} {n f : Nat} (h : Unl listed n (f + 1)) : ∃ i, i < n ∧ listed.getD i true = false := by
  have h2 : 0 < ((List.range n).filter fun i => !listed.getD i true).length := by rw [h.2]; omega
  obtain ⟨i, hi⟩ := List.exists_mem_of_length_pos h2
  obtain ⟨h3, h4⟩ := List.mem_filter.1 hi
  exact ⟨i, List.mem_range.1 h3, by simpa using h4⟩
/-- where one is left, one may come up -/
theorem ready_some {l : List Oper} {listed : Array Bool} {f : Nat} (hb : backB l = true) (h : Unl listed l.length (f + 1)) : Region.ready .any l.toArray listed ≠ [] := by
  obtain ⟨i, hi, h0⟩ := h.some
  have : ∃ k, k < l.length ∧ listed.getD k true = false ∧ ∀ j, j < k → listed.getD j true = true := by
    induction i using Nat.strongRecOn with
    | _ i ih =>
      by_cases hj : ∃ j, j < i ∧ listed.getD j true = false
      · obtain ⟨j, hj1, hj2⟩ := hj
        exact ih j hj1 (by omega) hj2
      · refine ⟨i, hi, h0, fun j hj1 => ?_⟩
        cases e : listed.getD j true with
        | true => rfl
        | false => exact absurd ⟨j, hj1, e⟩ hj
  obtain ⟨k, hk, h1, h2⟩ := this
  refine List.ne_nil_of_mem (a := k) (mem_ready.2 ⟨h1, l[k], by simp [hk], fun e he _ => ?_⟩)
  have hlt := (back_at hb (k := k) (x := l[k]) (by simp [hk])).2 e he
  have := h2 e.on hlt
  have hs := h.1
  simp only [Array.getD, hs, show e.on < l.length by omega, dif_pos] at this ⊢
  exact this
theorem wpAny_snoc {l : List Oper} {o : Oper} (hb : backB l = true) (ho : behindB l o = true) (hcl : ∀ w n, S w → S (w.drewN n)) {Q : Exit → Act → World → Prop} :
    ∀ (f : Nat) (listed : Array Bool) (a : Act) (W w : World), Unl listed l.length f → Closed l.toArray listed → St S W w → pAny P S l.toArray c (fun a' W' => ∀ n, o.wp P a' (W'.drewN n) (fun a'' w'' => Q .normal a'' w'') Q ∨ (o.asks P a' (W'.drewN n) ∧ LetsOut Q)) f listed a W →
      wpAny P .any (l ++ [o]).toArray Q (f + 1) (listed.push false) a w := by
  have hog : o.guard = none := by
    unfold behindB at ho
    simp only [Bool.and_eq_true, Option.isNone_iff_eq_none] at ho
    exact ho.1.1
  have hon : ∀ e ∈ o.after, e.on < l.length := fun e he => by
    unfold behindB at ho
    simp only [Bool.and_eq_true] at ho
    have := Array.all_eq_true_iff_forall_mem.1 ho.1.2 e he
    simpa using this
  have hoa : ∀ listed : Array Bool, Closed l.toArray listed → (∀ e ∈ o.after, Region.binds .any e = true → listed.getD e.on false = true) → ∀ k, k < l.length → listed.getD k false = true := fun listed hc hall k hk => by
    unfold behindB at ho
    simp only [Bool.and_eq_true] at ho
    have := List.all_eq_true.1 ho.2 k (List.mem_range.2 hk)
    rcases Bool.or_eq_true_iff.1 this with h1 | h1
    · obtain ⟨e, he, h2, h3⟩ := onB_at h1
      have := hall e he h2
      rwa [h3] at this
    · obtain ⟨m, hm, h2⟩ := List.any_eq_true.1 h1
      simp only [Bool.and_eq_true] at h2
      obtain ⟨e, he, h4, h5⟩ := onB_at h2.1
      have hml : m < l.length := List.mem_range.1 hm
      have h6 := hall e he h4
      rw [h5] at h6
      rw [List.getElem?_eq_getElem hml] at h2
      obtain ⟨e', he', h7, h8⟩ := onB_at (x := l[m]) (by simpa using h2.2)
      have := hc m l[m] (by simp [hml]) h6 e' he' h7
      rwa [h8] at this
  have hsz : (l ++ [o]).toArray.size = l.length + 1 := by simp
  intro f
  induction f with
  | zero =>
    intro listed a W w hu hcd hw h
    have hall : ∀ i, i < l.length → ∀ d, (listed.push false).getD i d = true := fun i hi d => by rw [push_at hu.1 hi]; exact hu.none hi d
    have hend : Region.ready .any (l ++ [o]).toArray ((listed.push false).setIfInBounds l.length true) = [] := by
      refine List.eq_nil_iff_forall_not_mem.2 fun j hj => ?_
      obtain ⟨h0, x, hx, _⟩ := mem_ready.1 hj
      have hjl : j < l.length + 1 := by have := (Array.getElem?_eq_some_iff.1 hx).1; omega
      by_cases e : j = l.length
      · subst e
        have hs2 : (listed.push false).size = l.length + 1 := by simp [hu.1]
        simp [Array.getD, hs2] at h0
      · have h1 := hall j (by omega) true
        first | rw [getD_set_ne true (Ne.symm e)] at h0 | rw [getD_set_ne true e] at h0
        rw [h1] at h0
        cases h0
    have hmem : l.length ∈ Region.ready .any (l ++ [o]).toArray (listed.push false) := mem_ready.2 ⟨push_last hu.1 true, o, snoc_last, fun e he hbd => hall e.on (hon e he) false⟩
    refine ⟨fun h0 => absurd hmem (by rw [h0]; simp), fun i hi => ?_⟩
    obtain ⟨h0, x, hx, _⟩ := mem_ready.1 hi
    have hil : i < l.length + 1 := by have := (Array.getElem?_eq_some_iff.1 hx).1; omega
    have e : i = l.length := by
      rcases Nat.lt_or_ge i l.length with k | k
      · rw [hall i k true] at h0; cases h0
      · omega
    subst e
    obtain ⟨hs, n, rfl⟩ := hw
    unfold wpOp
    rw [snoc_last]
    simp only [wanted_none hog, if_true]
    exact (h.2 n).imp (fun k => Oper.wp_mono (fun a' w' h' => ⟨hend, h'⟩) k) (fun k => k)
  | succ f ih =>
    intro listed a W w hu hcd hw h
    have hin : ∀ i, i ∈ Region.ready .any (l ++ [o]).toArray (listed.push false) → i < l.length ∧ i ∈ Region.ready .any l.toArray listed := fun i hi => by
      obtain ⟨h0, x, hx, hall⟩ := mem_ready.1 hi
      have hil : i < l.length + 1 := by have := (Array.getElem?_eq_some_iff.1 hx).1; omega
      have hil2 : i < l.length := by
        rcases Nat.lt_or_ge i l.length with k | k
        · exact k
        · obtain rfl : i = l.length := by omega
          rw [snoc_last] at hx
          cases hx
          obtain ⟨j, hj, hj0⟩ := hu.some
          exact (getD_both hj0 (hoa listed hcd (fun e he hbd => by
            have h2 := hall e he hbd
            rw [push_at hu.1 (hon e he)] at h2
            exact h2) j hj)).elim
      refine ⟨hil2, mem_ready.2 ⟨by rw [← push_at hu.1 hil2]; exact h0, x, by rw [snoc_at hil2] at hx; simpa using hx, fun e he hbd => ?_⟩⟩
      have h2 := hall e he hbd
      rw [snoc_at hil2] at hx
      have hlt := (back_at hb hx).2 e he
      rw [push_at hu.1 (by omega)] at h2
      exact h2
    refine ⟨fun h0 => ?_, fun i hi => ?_⟩
    · exfalso
      refine ready_some hb hu (List.eq_nil_iff_forall_not_mem.2 fun j hj => ?_)
      obtain ⟨k0, x, hx, hall⟩ := mem_ready.1 hj
      have hjl : j < l.length := by have := (Array.getElem?_eq_some_iff.1 hx).1; simpa using this
      have : j ∈ Region.ready .any (l ++ [o]).toArray (listed.push false) := mem_ready.2 ⟨by rw [push_at hu.1 hjl]; exact k0, x, by rw [snoc_at hjl]; simpa using hx, fun e he hbd => by
        have hlt := (back_at hb (k := j) (x := x) (by simpa using hx)).2 e he
        rw [push_at hu.1 (by omega)]
        exact hall e he hbd⟩
      rw [h0] at this
      cases this
    · obtain ⟨hil, hir⟩ := hin i hi
      have hop := h.2 i hir
      have hl : l[i]? = some l[i] := List.getElem?_eq_getElem hil
      have hg := (back_at hb hl).1
      unfold pOp at hop
      unfold wpOp
      rw [snoc_at hil, hl]
      rw [show l.toArray[i]? = some l[i] by simp [hil]] at hop
      simp only [wanted_none hg, if_true] at hop ⊢
      have hset : (listed.push false).setIfInBounds i true = (listed.setIfInBounds i true).push false := by
        have hs := hu.1
        apply Array.ext_getElem?
        intro j
        rw [Array.getElem?_setIfInBounds, Array.getElem?_push, Array.getElem?_push, Array.getElem?_setIfInBounds, Array.size_push, Array.size_setIfInBounds]
        by_cases e : i = j
        · subst e
          have h1 : i ≠ listed.size := by omega
          have h2 : i < listed.size + 1 := by omega
          have h3 : i < listed.size := by omega
          simp [h1, h2, h3]
        · simp [e]
      refine .inl (wp_of_pUpon hcl hw (fun a' W' w' hw' hk => ?_) hop)
      rw [hset]
      exact ih _ a' W' w' (hu.step hil (mem_ready.1 hir).1) (hcd.set hir) hw' hk
theorem pAny_final {ops : Array Oper} {Q Q' : Act → World → Prop} (hq : ∀ a W, Q a W → Q' a W) : ∀ (f : Nat) (listed : Array Bool) (a : Act) (W : World), pAny P S ops c Q f listed a W → pAny P S ops c Q' f listed a W
  | 0, _, _, _, h => ⟨h.1, hq _ _ h.2⟩
  | f + 1, _, _, _, h => ⟨fun h0 => hq _ _ (h.1 h0), fun i hi => by
    have h2 := h.2 i hi
    unfold pOp at h2 ⊢
    split
    · rename_i e; simp only [e] at h2; exact pAny_final hq f _ _ _ h2
    · rename_i o e
      simp only [e] at h2
      split
      · rename_i hw
        simp only [hw, if_true] at h2
        unfold pUpon at h2 ⊢
        split at h2
        · exact let ⟨v, hv, hk⟩ := h2; ⟨v, hv, pAny_final hq f _ _ _ hk⟩
        · exact let ⟨v, hv, hk⟩ := h2; ⟨v, hv, pAny_final hq f _ _ _ hk⟩
        · exact fun n => writeAt_mono (fun a W hk => ⟨hk.1, pAny_final hq f _ _ _ hk.2⟩) (h2 n)
      · rename_i hw
        simp only [hw] at h2
        exact pAny_final hq f _ _ _ h2⟩
def initL : List Oper → List Oper
  | [] => []
  | [_] => []
  | x :: y :: r => x :: initL (y :: r)
def lastL : List Oper → List Oper
  | [] => []
  | [x] => [x]
  | _ :: y :: r => lastL (y :: r)
theorem init_last : ∀ l : List Oper, initL l ++ lastL l = l
  | [] => rfl
  | [_] => rfl
  | x :: y :: r => by
    show x :: (initL (y :: r) ++ lastL (y :: r)) = x :: y :: r
    rw [init_last (y :: r)]
theorem last_one : ∀ {l : List Oper}, l ≠ [] → ∃ o, lastL l = [o]
  | [], h => absurd rfl h
  | [x], _ => ⟨x, rfl⟩
  | _ :: y :: r, _ => last_one (l := y :: r) (by simp)
theorem wp_region_pinL (S : World → Prop) {id : Nat} {Q : Exit → Act → World → Prop} {a : Act} {w : World} {l : List Oper} (cs : List Nat) (hm : P.follows .mixedOrders = true) (hB : pinB cs (initL l).toArray = true)
    (hb : backB (initL l) = true) (ho : ((lastL l)[0]?).any (behindB (initL l)) = true)
    (hcl : ∀ w n, S w → S (w.drewN n)) (hs : S w)
    (h : pLex P S (initL l).toArray (fun a' W => ∀ n, wpList P l.toArray Q (lastL l) a' (W.drewN n)) cs (initL l) a w) : (Code.region id l.toArray true).wp P Q a w := by
  by_cases hl : l = []
  · subst hl
    simp [lastL] at ho
  obtain ⟨o, hlo⟩ := last_one hl
  rw [hlo] at ho h
  have ho2 : behindB (initL l) o = true := by simpa using ho
  have hog : o.guard = none := by
    unfold behindB at ho2
    simp only [Bool.and_eq_true, Option.isNone_iff_eq_none] at ho2
    exact ho2.1.1
  simp only [pinB, Bool.and_eq_true] at hB
  have e : l = initL l ++ [o] := by rw [← hlo, init_last]
  have hlen : l.length = (initL l).length + 1 := by
    have := congrArg List.length e
    simpa using this
  have key := pAny_lex (S := S) (c := fun i => cs.getD i 2) hB.1 (initL l) cs 0 (Array.replicate (initL l).toArray.size false) a w (by simp) (fun j => by simp) (by simpa using hB.2) hs (fun j oj _ hl => by simp [Array.getD] at hl) h
  have hrep : Array.replicate l.toArray.size false = (Array.replicate (initL l).toArray.size false).push false := by
    simp only [List.size_toArray, hlen]
    exact Array.replicate_succ
  refine wp_region_any hm ?_
  rw [hrep, show l.toArray.size = (initL l).length + 1 by simp [hlen]]
  rw [show l.toArray = (initL l ++ [o]).toArray by rw [← e]]
  refine wpAny_snoc (S := S) (c := fun i => cs.getD i 2) hb ho2 hcl _ _ a w _ ⟨by simp, ?_⟩ (fun j oj _ hl => by simp [Array.getD] at hl) ⟨hs, 1, rfl⟩ ?_
  · rw [List.filter_eq_self.2]
    · simp
    · intro i hi
      have := List.mem_range.1 hi
      simp [Array.getD, this]
  · refine pAny_final ?_ _ _ _ _ key
    intro a' W hW n
    have h2 := hW n
    unfold wpList at h2
    simp only [wanted_none hog, if_true] at h2
    exact h2.imp (fun k => Oper.wp_mono (fun a'' w'' h3 => by unfold wpList at h3; exact h3) k) (fun k => k)
end
end Go.Proofs.YtpanbijlfijgfaaDoor.Pin
