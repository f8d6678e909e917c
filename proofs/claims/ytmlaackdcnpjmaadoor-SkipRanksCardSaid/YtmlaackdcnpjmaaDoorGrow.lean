/- A region that draws its order, whose operations only ever add to the world (a relation R on worlds that is kept: "what was there stays"): each operation is shown once, in whatever world and beside whatever else has been carried out, from what holds of the values it stands on. No order is walked. Over any program. -/
import Derived.Test.YtmlaackdcnpjmaaDoorPin
namespace Go.Proofs.YtmlaackdcnpjmaaDoor.Grow
open Go Go.Proofs.YtmlaackdcnpjmaaDoor.Pin
section
variable {P : Program} {R : World → World → Prop} {ops : Array Oper}

def gAt (P : Program) (R : World → World → Prop) (V : Value → World → Prop) (w : World) : Result Next → Prop
  | .ok (.value v) w' => R w w' ∧ V v w'
  | .ok .skip w' => R w w' ∧ V undef w'
  | .ok (.enter f args) w' => Calls P f args w' (fun e w'' => ∃ v, e = .returned v ∧ R w w'' ∧ V v w'')
  | _ => False
def gOp (P : Program) (R : World → World → Prop) (ops : Array Oper) (o : Oper) (a : Act) (V : Value → World → Prop) (w : World) : Prop :=
  if Region.wanted o (yielded ops a.tmps) then gAt P R V w ((execOp a.eval o).run P w) else V undef w
def dstOf (ops : Array Oper) (k : Nat) : Option Tmp := (ops[k]?).bind (·.dst)
def actL (ops : Array Oper) (u : Nat → Value) : List Nat → Act → Act
  | [], b => b
  | k :: ks, a => actL ops u ks (a.put (dstOf ops k) (u k))
theorem actL_append (u : Nat → Value) : ∀ (ks ks' : List Nat) (a : Act), actL ops u (ks ++ ks') a = actL ops u ks' (actL ops u ks a)
  | [], _, _ => rfl
  | _ :: ks, ks', _ => actL_append u ks ks' _
def apartB (ops : Array Oper) : Bool := (List.range ops.size).all fun i => (List.range ops.size).all fun j => i == j || dstOf ops i == none || dstOf ops i != dstOf ops j
def Dsts (ops : Array Oper) : Prop := ∀ i j, i ≠ j → ∀ d, dstOf ops i = some d → dstOf ops j ≠ some d
theorem dstOf_lt {i : Nat} {d : Tmp} (h : dstOf ops i = some d) : i < ops.size := by
  unfold dstOf at h
  by_cases hi : i < ops.size
  · exact hi
  · rw [Array.getElem?_eq_none (by omega)] at h; cases h
theorem apartB_spec (h : apartB ops = true) : Dsts ops := by
  intro i j hne d hi hj
  have h1 := List.all_eq_true.1 (List.all_eq_true.1 h i (List.mem_range.2 (dstOf_lt hi))) j (List.mem_range.2 (dstOf_lt hj))
  rw [hi, hj] at h1
  simp [hne] at h1
theorem actL_perm (hd : Dsts ops) (u : Nat → Value) {ks ks' : List Nat} (h : ks.Perm ks') : ∀ a, actL ops u ks a = actL ops u ks' a := by
  induction h with
  | nil => intro a; rfl
  | cons k _ ih => intro a; exact ih _
  | swap x y l =>
    intro a
    by_cases hxy : x = y
    · subst hxy; rfl
    · show actL ops u l _ = actL ops u l _
      rw [Act.put_comm a _ _ (fun d hy hx => hd y x (Ne.symm hxy) d hy hx)]
  | trans _ _ ih1 ih2 => intro a; rw [ih1, ih2]
theorem actL_congr {u u' : Nat → Value} : ∀ (ks : List Nat) (a : Act), (∀ k ∈ ks, u k = u' k) → actL ops u ks a = actL ops u' ks a
  | [], _, _ => rfl
  | k :: ks, a, h => by
    show actL ops u ks _ = actL ops u' ks _
    rw [h k (by simp)]
    exact actL_congr ks _ fun k' hk' => h k' (by simp [hk'])
/-- what an operation does not look at makes no difference to it -/
theorem rest_same (o : Oper) (hs : ∀ cs b, o.op ≠ .select cs b) (u : Nat → Value) : ∀ (ks : List Nat) (a : Act), (∀ k ∈ ks, ∀ d, dstOf ops k = some d → d ∉ o.looksAt ops) →
    execOp (actL ops u ks a).eval o = execOp a.eval o ∧ Region.wanted o (yielded ops (actL ops u ks a).tmps) = Region.wanted o (yielded ops a.tmps)
  | [], _, _ => ⟨rfl, rfl⟩
  | k :: ks, a, h => by
    obtain ⟨h1, h2⟩ := rest_same o hs u ks (a.put (dstOf ops k) (u k)) (fun k' hk' => h k' (by simp [hk']))
    exact ⟨h1.trans (execOp_put o hs a _ _ (h k (by simp))), h2.trans (wanted_put o a _ _ (h k (by simp)))⟩
/-- may operation i be shown from the operations of d alone? -/
def growAt (ops : Array Oper) (i : Nat) (d : List Nat) : Bool :=
  match ops[i]? with
  | none => false
  | some o => decide d.Nodup && d.all (fun k => decide (k < ops.size) && (aftL ops k ops.size).contains i) && o.after.all (fun e => !Region.binds .any e || decide (e.on < i)) &&
    (List.range ops.size).all fun k => d.contains k || match dstOf ops k with | some t => !(o.looksAt ops).contains t | none => true
def growB (ops : Array Oper) (D : List (List Nat)) : Bool :=
  Region.noSelect ops && apartB ops && (List.range ops.size).all fun i => growAt ops i (D.getD i [])

/-- carried out: the operations ks, each once, with the values u -/
structure Done (R : World → World → Prop) (ops : Array Oper) (V : Nat → Value → World → Prop) (a0 : Act) (W : World) (u : Nat → Value) (ks : List Nat) (listed : Array Bool) (a : Act) (w : World) : Prop where
  nodup : ks.Nodup
  size : listed.size = ops.size
  mem : ∀ k, k ∈ ks ↔ listed.getD k false = true
  act : a = actL ops u ks a0
  rel : R W w
  fact : ∀ k ∈ ks, V k (u k) w
theorem gAt_wp {o : Oper} {a : Act} {w : World} {V : Value → World → Prop} {K : Act → World → Prop} {Q : Exit → Act → World → Prop}
    (h : gAt P R V w ((execOp a.eval o).run P w)) (hK : ∀ v w', R w w' → V v w' → K (a.put o.dst v) w') : o.wp P a w K Q := by
  unfold Oper.wp
  generalize (execOp a.eval o).run P w = r at *
  cases r with
  | ok n w' =>
    cases n <;> simp only [gAt] at h <;> simp only [Oper.upon]
    case value v => exact hK _ _ h.1 h.2
    case skip => exact hK _ _ h.1 h.2
    case enter f args => exact h.mono fun e w'' ⟨v, he, h1, h2⟩ => by subst he; exact hK _ _ h1 h2
  | halt x w' => simp only [gAt] at h
theorem listed_lt {listed : Array Bool} {k : Nat} (h : listed.getD k false = true) : k < listed.size := by
  by_cases hk : k < listed.size
  · exact hk
  · simp [Array.getElem?_eq_none (Nat.le_of_not_lt hk)] at h
theorem getD_set_self {listed : Array Bool} {i : Nat} (h : i < listed.size) (b : Bool) : (listed.setIfInBounds i true).getD i b = true := by simp [h]
theorem nodup_le : ∀ (ks l : List Nat), ks.Nodup → (∀ k ∈ ks, k ∈ l) → ks.length ≤ l.length
  | [], _, _, _ => by simp
  | k :: ks, l, hn, hs => by
    have hk : k ∈ l := hs k (by simp)
    have h1 := nodup_le ks (l.erase k) (List.nodup_cons.1 hn).2 (fun j hj => (List.mem_erase_of_ne (fun h => by subst h; exact (List.nodup_cons.1 hn).1 hj)).2 (hs j (by simp [hj])))
    have h2 := List.length_erase_of_mem hk
    have h3 := List.length_pos_of_mem hk
    simp only [List.length_cons]
    omega
theorem nodup_full {ks : List Nat} {n : Nat} (hn : ks.Nodup) (hs : ∀ k ∈ ks, k < n) (hl : ks.length = n) : ks.Perm (List.range n) := by
  refine (List.perm_ext_iff_of_nodup hn List.nodup_range).2 fun k => ⟨fun h => List.mem_range.2 (hs k h), fun h => ?_⟩
  refine Classical.byContradiction fun hk => ?_
  have := nodup_le (k :: ks) (List.range n) (List.nodup_cons.2 ⟨hk, hn⟩) (fun j hj => by
    rcases List.mem_cons.1 hj with rfl | hj
    · exact h
    · exact List.mem_range.2 (hs j hj))
  simp at this
  omega
theorem grow_stuck {listed : Array Bool} (hf : ∀ i o, ops[i]? = some o → ∀ e ∈ o.after, Region.binds .any e = true → e.on < i) (h0 : Region.ready .any ops listed = []) (hs : listed.size = ops.size) :
    ∀ n k, k < n → k < ops.size → listed.getD k false = true
  | 0, _, h, _ => by omega
  | n + 1, k, h, hk => by
    rcases Nat.lt_or_ge k n with h' | h'
    · exact grow_stuck hf h0 hs n k h' hk
    · obtain rfl : k = n := by omega
      cases hx : listed.getD k false with
      | true => rfl
      | false =>
        exfalso
        obtain ⟨o, ho⟩ : ∃ o, ops[k]? = some o := ⟨_, Array.getElem?_eq_getElem hk⟩
        have : k ∈ Region.ready .any ops listed := mem_ready.2 ⟨by simp [hs, hk] at hx ⊢; exact hx, o, ho, fun e he hb => grow_stuck hf h0 hs k e.on (hf k o ho e he hb) (by have := hf k o ho e he hb; omega)⟩
        rw [h0] at this
        cases this
theorem grow_any (hsel : Region.noSelect ops = true) (hd : Dsts ops) (hrt : ∀ a b c, R a b → R b c → R a c) (hrr : ∀ a, R a a) {V : Nat → Value → World → Prop} (hst : ∀ i v w w', V i v w → R w w' → V i v w')
    {D : List (List Nat)} (hD : ∀ i < ops.size, growAt ops i (D.getD i []) = true) {a0 : Act} {W : World}
    (hop : ∀ i o, ops[i]? = some o → ∀ u w, R W w → (∀ k ∈ D.getD i [], V k (u k) w) → gOp P R ops o (actL ops u (D.getD i []) a0) (V i) w)
    {Q : Exit → Act → World → Prop} (hQ : ∀ u w, R W w → (∀ k < ops.size, V k (u k) w) → Q .normal (actL ops u (List.range ops.size) a0) w) :
    ∀ (fuel : Nat) (u : Nat → Value) (ks : List Nat) (listed : Array Bool) (a : Act) (w : World), ks.length + fuel = ops.size → Closed ops listed → Done R ops V a0 W u ks listed a w → wpAny P .any ops Q fuel listed a w := by
  have fin : ∀ (u : Nat → Value) (ks : List Nat) (listed : Array Bool) (a : Act) (w : World), Done R ops V a0 W u ks listed a w → ks.length = ops.size → Q .normal a w := by
    intro u ks listed a w hdn hl
    have hp : ks.Perm (List.range ops.size) := nodup_full hdn.nodup (fun k hk => by have := listed_lt ((hdn.mem k).1 hk); rw [hdn.size] at this; exact this) hl
    rw [hdn.act, actL_perm hd u hp]
    exact hQ u w hdn.rel fun k hk => hdn.fact k (hp.mem_iff.2 (List.mem_range.2 hk))
  have ops_done : ∀ (ks : List Nat) (listed : Array Bool), (∀ k, k ∈ ks ↔ listed.getD k false = true) → listed.size = ops.size → ks.Nodup → ks.length = ops.size → Region.ready .any ops listed = [] := by
    intro ks listed hm hsz hnd hl
    have hp : ks.Perm (List.range ops.size) := nodup_full hnd (fun k hk => by have := listed_lt ((hm k).1 hk); rw [hsz] at this; exact this) hl
    refine List.eq_nil_iff_forall_not_mem.2 fun i hi => ?_
    obtain ⟨h0, o, ho, _⟩ := mem_ready.1 hi
    have hlt : i < ops.size := (Array.getElem?_eq_some_iff.1 ho).1
    have := (hm i).1 (hp.mem_iff.2 (List.mem_range.2 hlt))
    exact getD_both h0 this
  intro fuel
  induction fuel with
  | zero =>
    intro u ks listed a w hl hc hdn
    exact ⟨ops_done ks listed hdn.mem hdn.size hdn.nodup (by omega), fin u ks listed a w hdn (by omega)⟩
  | succ fuel ih =>
    intro u ks listed a w hl hc hdn
    refine ⟨fun h0 => ?_, fun i hi => ?_⟩
    · -- nothing may come up, so all is done
      exfalso
      -- the least operation that is not listed is ready
      have : ∃ k, k < ops.size ∧ k ∉ ks := by
        apply Classical.byContradiction
        intro hno
        have hall : ∀ k ∈ List.range ops.size, k ∈ ks := fun k hk => Classical.byContradiction fun h => hno ⟨k, List.mem_range.1 hk, h⟩
        have := nodup_le _ _ List.nodup_range hall
        simp at this
        omega
      obtain ⟨k, hk, hkn⟩ := this
      refine hkn ((hdn.mem k).2 (grow_stuck (fun i o ho e he hb => ?_) h0 hdn.size (k + 1) k (by omega) hk))
      have hlt : i < ops.size := (Array.getElem?_eq_some_iff.1 ho).1
      have hg := hD i hlt
      unfold growAt at hg
      simp only [ho, Bool.and_eq_true] at hg
      have h3 := Array.all_eq_true_iff_forall_mem.1 hg.1.2 e he
      rw [hb] at h3
      simpa using h3
    · obtain ⟨h0, o, ho, hall⟩ := mem_ready.1 hi
      have hlt : i < ops.size := (Array.getElem?_eq_some_iff.1 ho).1
      have hg := hD i hlt
      unfold growAt at hg
      simp only [ho, Bool.and_eq_true, decide_eq_true_eq, List.all_eq_true, List.mem_range, Bool.or_eq_true, List.contains_iff_mem] at hg
      obtain ⟨⟨⟨hnd, hbeh⟩, -⟩, hfar⟩ := hg
      have hin : i ∉ ks := fun h => getD_both h0 ((hdn.mem i).1 h)
      have hDks : ∀ k ∈ D.getD i [], k ∈ ks := fun k hk => by
        have haft : Aft ops k i := aftL_spec k _ i (hbeh k hk).2
        refine (hdn.mem k).2 ?_
        cases hx : listed.getD k false with
        | true => rfl
        | false =>
          exfalso
          have hk' : listed.getD k true = false := by
            have hlt' : k < listed.size := by
              rw [hdn.size]
              exact (hbeh k hk).1
            simp [hlt'] at hx ⊢
            exact hx
          exact Aft.not_ready hc hk' hi haft
      -- the frame as the operation sees it
      have hperm : ks.Perm (D.getD i [] ++ ks.filter (fun k => !(D.getD i []).contains k)) := by
        have h1 : ks.Perm (ks.filter (fun k => (D.getD i []).contains k) ++ ks.filter (fun k => !(D.getD i []).contains k)) := (List.filter_append_perm _ ks).symm
        refine h1.trans (List.Perm.append_right _ ?_)
        refine (List.perm_ext_iff_of_nodup (hdn.nodup.filter _) hnd).2 fun k => ?_
        simp only [List.mem_filter, List.contains_iff_mem]
        exact ⟨fun h => h.2, fun h => ⟨hDks k h, h⟩⟩
      have hact : a = actL ops u (ks.filter (fun k => !(D.getD i []).contains k)) (actL ops u (D.getD i []) a0) := by
        rw [hdn.act, actL_perm hd u hperm, actL_append]
      have hsame := rest_same (ops := ops) o (fun cs b => Region.noSelect_spec hsel i o cs b ho) u (ks.filter (fun k => !(D.getD i []).contains k)) (actL ops u (D.getD i []) a0) (fun k hk d hkd => by
        have hk' := (List.mem_filter.1 hk).2
        rcases hfar k (dstOf_lt hkd) with h | h
        · exfalso; rw [List.contains_iff_mem.2 h] at hk'; cases hk'
        · rw [hkd] at h; simpa using h)
      rw [← hact] at hsame
      have hfacts : ∀ k ∈ D.getD i [], V k (u k) w := fun k hk => hdn.fact k (hDks k hk)
      have hthis := hop i o ho u w hdn.rel hfacts
      unfold gOp at hthis
      rw [← hsame.1, ← hsame.2] at hthis
      have next : ∀ v w', R w w' → V i v w' → wpAny P .any ops Q fuel (listed.setIfInBounds i true) (a.put o.dst v) w' := fun v w' hr hv => by
        have hdst : dstOf ops i = o.dst := by unfold dstOf; rw [ho]; rfl
        refine ih (fun k => if k = i then v else u k) (ks ++ [i]) _ _ w' (by simp; omega) (hc.set hi) ⟨?_, by simp [hdn.size], fun k => ?_, ?_, hrt _ _ _ hdn.rel hr, fun k hk => ?_⟩
        · refine List.nodup_append.2 ⟨hdn.nodup, by simp, fun x hx y hy => ?_⟩
          obtain rfl : y = i := by simpa using hy
          intro hxy
          subst hxy
          exact hin hx
        · by_cases hki : k = i
          · subst hki
            simp [hdn.size, hlt]
          · rw [getD_set_ne false (Ne.symm hki)]
            simp only [List.mem_append, List.mem_singleton, hki, or_false]
            exact hdn.mem k
        · rw [actL_append, actL_congr ks a0 (u' := u) (fun k hk => by
            have : k ≠ i := fun h => hin (h ▸ hk)
            simp [this]), ← hdn.act]
          simp [actL, hdst]
        · rcases List.mem_append.1 hk with hk | hk
          · have : k ≠ i := fun h => hin (h ▸ hk)
            simp only [this, if_false]
            exact hst k _ _ _ (hdn.fact k hk) hr
          · obtain rfl : k = i := by simpa using hk
            simpa using hv
      unfold wpOp
      simp only [ho]
      split
      · rename_i hw
        simp only [hw, if_true] at hthis
        exact .inl (gAt_wp hthis next)
      · rename_i hw
        simp only [hw] at hthis
        exact next undef w (hrr w) (by simpa using hthis)
/-! ### For the walk -/
def gFacts (Vs : List (Value → World → Prop)) (u : Nat → Value) (w : World) : List Nat → Prop
  | [] => True
  | k :: ks => (Vs.getD k (fun _ _ => False)) (u k) w ∧ gFacts Vs u w ks
theorem gFacts_of {Vs : List (Value → World → Prop)} {u : Nat → Value} {w : World} : ∀ {ks : List Nat}, (∀ k ∈ ks, (Vs.getD k (fun _ _ => False)) (u k) w) → gFacts Vs u w ks
  | [], _ => trivial
  | k :: _, h => ⟨h k (by simp), gFacts_of fun k' hk' => h k' (by simp [hk'])⟩
inductive gGoals (P : Program) (R : World → World → Prop) (ops : Array Oper) (a : Act) (W : World) (Vs : List (Value → World → Prop)) : List Oper → List (List Nat) → List (Value → World → Prop) → Prop
  | nil {ds : List (List Nat)} {vs : List (Value → World → Prop)} : gGoals P R ops a W Vs [] ds vs
  | cons {o : Oper} {os : List Oper} {d : List Nat} {ds : List (List Nat)} {v : Value → World → Prop} {vs : List (Value → World → Prop)} :
      (∀ u w, R W w → gFacts Vs u w d → gOp P R ops o (actL ops u d a) v w) → gGoals P R ops a W Vs os ds vs → gGoals P R ops a W Vs (o :: os) (d :: ds) (v :: vs)
theorem gGoals.at {a : Act} {W : World} {Vs : List (Value → World → Prop)} {os : List Oper} {ds : List (List Nat)} {vs : List (Value → World → Prop)} (h : gGoals P R ops a W Vs os ds vs) :
    ∀ i o, os[i]? = some o → ∀ u w, R W w → gFacts Vs u w (ds.getD i []) → gOp P R ops o (actL ops u (ds.getD i []) a) (vs.getD i (fun _ _ => False)) w := by
  induction h with
  | nil => intro i o ho; simp at ho
  | cons h1 _ ih =>
    intro i o ho
    cases i with
    | zero => obtain rfl : _ = o := by simpa using ho
              exact h1
    | succ i => exact ih i o (by simpa using ho)
inductive gEnd (Q : Act → World → Prop) : List Oper → List (Value → World → Prop) → Act → World → Prop
  | nil {vs : List (Value → World → Prop)} {a : Act} {w : World} : Q a w → gEnd Q [] vs a w
  | cons {o : Oper} {os : List Oper} {v : Value → World → Prop} {vs : List (Value → World → Prop)} {a : Act} {w : World} : (∀ x, v x w → gEnd Q os vs (a.put o.dst x) w) → gEnd Q (o :: os) (v :: vs) a w
theorem gEnd.out {Q : Act → World → Prop} {u : Nat → Value} {w : World} : ∀ (os : List Oper) (vs : List (Value → World → Prop)) (a : Act) (k : Nat), (∀ j, os[j]? = ops[k + j]?) → (∀ j < os.length, (vs.getD j (fun _ _ => False)) (u (k + j)) w) →
    gEnd Q os vs a w → Q (actL ops u (List.range' k os.length) a) w
  | [], _, _, _, _, _, h => by cases h with | nil h => exact h
  | o :: os, vs, a, k, ho, hv, h => by
    cases h with
    | cons h =>
      have h0 : ops[k]? = some o := by simpa using (ho 0).symm
      have h1 := h (u k) (by simpa using hv 0 (by simp))
      have := gEnd.out os _ _ (k + 1) (fun j => by have := ho (j + 1); simpa [Nat.add_assoc, Nat.add_comm 1 j] using this) (fun j hj => by have := hv (j + 1) (by simp; omega); simpa [Nat.add_assoc, Nat.add_comm 1 j] using this) h1
      rw [List.length_cons, List.range'_succ]
      show Q (actL ops u _ (a.put (dstOf ops k) (u k))) w
      have hd : dstOf ops k = o.dst := by unfold dstOf; rw [h0]; rfl
      rw [hd]
      exact this
/-- what only adds -/
def Grows (W W' : World) : Prop := Go.RowKit.Below W.heap.size W W'
theorem Grows.refl (W : World) : Grows W W := Go.RowKit.Below.refl _ _
theorem Grows.trans {a b c : World} (h : Grows a b) (h' : Grows b c) : Grows a c := Go.RowKit.Below.trans h (Go.RowKit.Below.mono h' h.size)
theorem Grows.drew (W : World) : Grows W W.drew := below_drewN (Go.RowKit.Below.refl _ _) 1
theorem Grows.alloc (W : World) (o : Obj) : Grows W (W.alloc o) := (Go.RowKit.Below.refl _ _).alloc (Nat.le_refl _) _
theorem Grows.block {W W' : World} (h : Grows W W') {b : Nat} {o : Obj} (hb : W.heap[b]? = some o) : W'.heap[b]? = some o := (Go.RowKit.Below.block h b (Array.getElem?_eq_some_iff.1 hb).1).trans hb
def Stable (V : Value → World → Prop) : Prop := ∀ v w w', V v w → Grows w w' → V v w'
/-- **Each operation once**: Vs: what holds of each operation's value, once it has been carried out, whatever is added to the world; D: the operations that each stands on. -/
theorem wp_region_grow {id : Nat} {Q : Exit → Act → World → Prop} {a : Act} {w : World} {l : List Oper} (Vs : List (Value → World → Prop)) (D : List (List Nat)) (hm : P.follows .mixedOrders = true) (hB : growB l.toArray D = true)
    (hst : ∀ V ∈ Vs, Stable V) (h : gGoals P Grows l.toArray a w Vs l D Vs) (hQ : ∀ w', Grows w w' → gEnd (Q .normal) l Vs a w') : (Code.region id l.toArray true).wp P Q a w := by
  simp only [growB, Bool.and_eq_true, List.all_eq_true, List.mem_range] at hB
  obtain ⟨⟨hs, hd⟩, hg⟩ := hB
  refine wp_region_any hm ?_
  refine grow_any (R := Grows) (V := fun i => Vs.getD i (fun _ _ => False)) (D := D) (a0 := a) (W := w) hs (apartB_spec hd) (fun _ _ _ => Grows.trans) Grows.refl (fun i v w w' hv hg => ?_) (fun i hi => hg i hi) ?_ (Q := Q) (fun u w' hr hf => ?_) _ (fun _ => undef) [] _ a w.drew (by simp) (fun j oj _ hl => by simp [Array.getD] at hl) ⟨by simp, by simp, fun k => by simp [Array.getD], rfl, Grows.drew w, fun k hk => by cases hk⟩
  · by_cases hi : i < Vs.length
    · have e : Vs.getD i (fun _ _ => False) = Vs[i] := by simp [hi]
      rw [e] at hv ⊢
      exact hst _ (List.getElem_mem hi) _ _ _ hv hg
    · have e : Vs.getD i (fun _ _ => False) = fun _ _ => False := by simp [Nat.le_of_not_lt hi]
      rw [e] at hv
      exact hv.elim
  · intro i o ho u w' hr hf
    exact h.at i o (by simpa using ho) u w' hr (gFacts_of hf)
  · have := gEnd.out (ops := l.toArray) (u := u) l Vs a 0 (by simp) (fun j hj => by simpa using hf j (by simpa using hj)) (hQ w' hr)
    rw [← List.range_eq_range'] at this
    simpa using this
theorem gop_n {o : Oper} {a : Act} {V : Value → World → Prop} {w : World} (hg : o.guard = none) (h : gAt P R V w ((execOp a.eval o).run P w)) : gOp P R ops o a V w := by
  unfold gOp
  rw [if_pos (by simp [Region.wanted, hg])]
  exact h
theorem gop_y {o : Oper} {a : Act} {V : Value → World → Prop} {w : World} {j : Nat} {b : Bool} (hg : o.guard = some (j, b)) (hy : yielded ops a.tmps j = some b) (h : gAt P R V w ((execOp a.eval o).run P w)) : gOp P R ops o a V w := by
  unfold gOp
  rw [if_pos (by simp [Region.wanted, hg, hy])]
  exact h
theorem gop_x {o : Oper} {a : Act} {V : Value → World → Prop} {w : World} {j : Nat} {b : Bool} (hg : o.guard = some (j, b)) (hy : yielded ops a.tmps j = some (!b)) (h : V undef w) : gOp P R ops o a V w := by
  unfold gOp
  rw [if_neg (by cases b <;> simp [Region.wanted, hg, hy])]
  exact h
end
attribute [go_sem] gAt actL dstOf
end Go.Proofs.YtmlaackdcnpjmaaDoor.Grow
