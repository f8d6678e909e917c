/- A region that draws its order, where whatever reads or writes memory is pinned: each two such operations of which one writes stand in a fixed order (or the one that does not look at memory at all may stand anywhere). One walk of the lexical order then serves every order. Over any program. Classes of operations: 0 does not look at the world; 1 reads it (or calls what only reads); 2 writes it. After the kit's own theorem on quiet regions. -/
import Derived.Still
import Derived.Deep.Draws
import Derived.Tactics
import Derived.KernelRfl
import Derived.Laws.Tables
import Derived.Below
namespace Go.Proofs.YtnoalklbgncajaaDoor.Pin
open Go
section
variable {P : Program} {S : World → Prop} {ops : Array Oper} {c : Nat → Nat}

def readAt (P : Program) (W : World) (n : Nat) (v : Value) : Result Next → Prop
  | .ok (.value u) w' => w' = W.drewN n ∧ u = v
  | .ok .skip w' => w' = W.drewN n ∧ undef = v
  | .ok (.enter f args) w' => w' = W.drewN n ∧ Calls P f args (W.drewN n) (fun e w'' => e = .returned v ∧ ∃ m, w'' = W.drewN m)
  | _ => False
def writeAt (P : Program) (o : Oper) (a : Act) (K : Act → World → Prop) : Result Next → Prop
  | .ok (.value v) w' => ∃ W', (∃ m, w' = W'.drewN m) ∧ K (a.put o.dst v) W'
  | .ok .skip w' => ∃ W', (∃ m, w' = W'.drewN m) ∧ K (a.put o.dst undef) W'
  | .ok (.enter f args) w' => Calls P f args w' (fun e w'' => ∃ v W', e = .returned v ∧ (∃ m, w'' = W'.drewN m) ∧ K (a.put o.dst v) W')
  | _ => False
theorem ge2 {k : Nat} (h0 : k = 0 → False) (h1 : k = 1 → False) : ¬ k ≤ 1 := fun h => by
  match k, h with
  | 0, _ => exact h0 rfl
  | 1, _ => exact h1 rfl
/-- what an operation of a class yields -/
def factAt (P : Program) (S : World → Prop) (c : Nat) (o : Oper) (v : Value) (a : Act) (W : World) : Prop :=
  match c with
  | 0 => ∀ w, S w → (execOp a.eval o).run P w = .ok (.value v) w
  | _ => ∀ n, readAt P W n v ((execOp a.eval o).run P (W.drewN n))
def pUpon (P : Program) (S : World → Prop) (c : Nat) (o : Oper) (a : Act) (W : World) (K : Act → World → Prop) : Prop :=
  match c with
  | 0 => ∃ v, (∀ w, S w → (execOp a.eval o).run P w = .ok (.value v) w) ∧ K (a.put o.dst v) W
  | 1 => ∃ v, (∀ n, readAt P W n v ((execOp a.eval o).run P (W.drewN n))) ∧ K (a.put o.dst v) W
  | _ => ∀ n, writeAt P o a (fun a' W' => S W' ∧ K a' W') ((execOp a.eval o).run P (W.drewN n))
def pOp (P : Program) (S : World → Prop) (ops : Array Oper) (c : Nat → Nat) (i : Nat) (K : Act → World → Prop) (a : Act) (W : World) : Prop :=
  match ops[i]? with
  | none => K a W
  | some o => if Region.wanted o (yielded ops a.tmps) then pUpon P S (c i) o a W K else K (a.put o.dst undef) W
def pAny (P : Program) (S : World → Prop) (ops : Array Oper) (c : Nat → Nat) (Q : Act → World → Prop) : Nat → Array Bool → Act → World → Prop
  | 0, listed, a, W => Region.ready .any ops listed = [] ∧ Q a W
  | fuel + 1, listed, a, W =>
    (Region.ready .any ops listed = [] → Q a W) ∧
    ∀ i ∈ Region.ready .any ops listed, pOp P S ops c i (pAny P S ops c Q fuel (listed.setIfInBounds i true)) a W

theorem writeAt_mono {o : Oper} {a : Act} {K K' : Act → World → Prop} (h : ∀ a W, K a W → K' a W) {r : Result Next} (hh : writeAt P o a K r) : writeAt P o a K' r := by
  cases r with
  | ok n w' =>
    cases n <;> simp only [writeAt] at hh ⊢
    case value v => exact let ⟨W', hm, hk⟩ := hh; ⟨W', hm, h _ _ hk⟩
    case skip => exact let ⟨W', hm, hk⟩ := hh; ⟨W', hm, h _ _ hk⟩
    case enter f args => exact Calls.mono hh fun e w'' ⟨v, W', he, hm, hk⟩ => ⟨v, W', he, hm, h _ _ hk⟩
  | halt x w' => exact hh
theorem pUpon_mono {k : Nat} {o : Oper} {a : Act} {W : World} {K K' : Act → World → Prop} (hs : S W) (h : ∀ a W, S W → K a W → K' a W) (hh : pUpon P S k o a W K) : pUpon P S k o a W K' := by
  unfold pUpon at *
  split at hh
  · exact let ⟨v, hv, hk⟩ := hh; ⟨v, hv, h _ _ hs hk⟩
  · exact let ⟨v, hv, hk⟩ := hh; ⟨v, hv, h _ _ hs hk⟩
  · exact fun n => writeAt_mono (fun a W hk => ⟨hk.1, h a W hk.1 hk.2⟩) (hh n)
theorem pOp_mono {i : Nat} {a : Act} {W : World} {K K' : Act → World → Prop} (hs : S W) (h : ∀ a W, S W → K a W → K' a W) (hh : pOp P S ops c i K a W) : pOp P S ops c i K' a W := by
  unfold pOp at *
  split
  · rename_i ho; simp only [ho] at hh; exact h _ _ hs hh
  · rename_i o ho
    simp only [ho] at hh
    split
    · rename_i hw; simp only [hw, if_true] at hh; exact pUpon_mono hs h hh
    · rename_i hw; simp only [hw] at hh; exact h _ _ hs hh

/-- the worlds of a stage -/
def St (S : World → Prop) (W w : World) : Prop := S W ∧ ∃ n, w = W.drewN n

theorem wp_of_pUpon {k : Nat} {o : Oper} {a : Act} {W w : World} {K K' : Act → World → Prop} {Q' : Exit → Act → World → Prop} (hcl : ∀ w n, S w → S (w.drewN n)) (hw : St S W w)
    (h : ∀ a W' w', St S W' w' → K a W' → K' a w') (hh : pUpon P S k o a W K) : o.wp P a w K' Q' := by
  obtain ⟨hs, n, rfl⟩ := hw
  unfold Oper.wp
  unfold pUpon at hh
  split at hh
  · obtain ⟨v, hv, hk⟩ := hh
    rw [hv _ (hcl _ _ hs)]
    exact h _ _ _ ⟨hs, n, rfl⟩ hk
  · obtain ⟨v, hv, hk⟩ := hh
    have h3 := hv n
    generalize (execOp a.eval o).run P (W.drewN n) = r at *
    cases r with
    | ok x w' =>
      cases x <;> simp only [readAt] at h3 <;> simp only [Oper.upon]
      case value u => rw [h3.1, h3.2]; exact h _ _ _ ⟨hs, n, rfl⟩ hk
      case skip =>
        obtain ⟨h3a, h3b⟩ := h3
        subst h3b
        rw [h3a]
        exact h _ _ _ ⟨hs, n, rfl⟩ hk
      case enter f args => rw [h3.1]; exact h3.2.mono fun e w'' ⟨he, hm⟩ => by subst he; exact h _ _ _ ⟨hs, hm⟩ hk
    | halt x w' => simp only [readAt] at h3
  · have h3 := hh n
    generalize (execOp a.eval o).run P (W.drewN n) = r at *
    cases r with
    | ok x w' =>
      cases x <;> simp only [writeAt] at h3 <;> simp only [Oper.upon]
      case value u => obtain ⟨W', hm, hk⟩ := h3; exact h _ _ _ ⟨hk.1, hm⟩ hk.2
      case skip => obtain ⟨W', hm, hk⟩ := h3; exact h _ _ _ ⟨hk.1, hm⟩ hk.2
      case enter f args => exact h3.mono fun e w'' ⟨v, W', he, hm, hk⟩ => by subst he; exact h _ _ _ ⟨hk.1, hm⟩ hk.2
    | halt x w' => simp only [writeAt] at h3
theorem wpOp_of_pOp {i : Nat} {a : Act} {W w : World} {K K' : Act → World → Prop} {Q' : Exit → Act → World → Prop} (hcl : ∀ w n, S w → S (w.drewN n)) (hw : St S W w)
    (h : ∀ a W' w', St S W' w' → K a W' → K' a w') (hh : pOp P S ops c i K a W) : wpOp P ops Q' i K' a w := by
  unfold pOp at hh
  unfold wpOp
  split
  · rename_i ho; simp only [ho] at hh; exact h _ _ _ hw hh
  · rename_i o ho
    simp only [ho] at hh
    split
    · rename_i hw'; simp only [hw', if_true] at hh; exact .inl (wp_of_pUpon hcl hw h hh)
    · rename_i hw'; simp only [hw'] at hh; exact h _ _ _ hw hh
theorem wpAny_of_pAny (hcl : ∀ w n, S w → S (w.drewN n)) {Q : Act → World → Prop} {Q' : Exit → Act → World → Prop} (hQ : ∀ a W w, St S W w → Q a W → Q' .normal a w) : ∀ (fuel : Nat) (listed : Array Bool) (a : Act) (W w : World), St S W w →
    pAny P S ops c Q fuel listed a W → wpAny P .any ops Q' fuel listed a w
  | 0, _, _, _, _, hw, h => ⟨h.1, hQ _ _ _ hw h.2⟩
  | fuel + 1, _, _, _, _, hw, h => ⟨fun h0 => hQ _ _ _ hw (h.1 h0), fun i hi => wpOp_of_pOp hcl hw (fun a' W' w' hw' => wpAny_of_pAny hcl hQ fuel _ a' W' w' hw') (h.2 i hi)⟩

/-! ### What comes behind what -/
inductive Aft (ops : Array Oper) (i : Nat) : Nat → Prop
  | base {j : Nat} {oj : Oper} {e : Edge} : ops[j]? = some oj → e ∈ oj.after → Region.binds .any e = true → e.on = i → Aft ops i j
  | step {j : Nat} {oj : Oper} {e : Edge} : ops[j]? = some oj → e ∈ oj.after → Region.binds .any e = true → Aft ops i e.on → Aft ops i j
def Closed (ops : Array Oper) (listed : Array Bool) : Prop :=
  ∀ j oj, ops[j]? = some oj → listed.getD j false = true → ∀ e ∈ oj.after, Region.binds .any e = true → listed.getD e.on false = true
theorem getD_both {listed : Array Bool} {i : Nat} (h0 : listed.getD i true = false) (h1 : listed.getD i false = true) : False := by
  rcases Nat.lt_or_ge i listed.size with h' | h'
  · simp [h'] at h0 h1; rw [h0] at h1; cases h1
  · simp [Array.getElem?_eq_none h'] at h1
theorem Aft.not_listed {listed : Array Bool} {i j : Nat} (hc : Closed ops listed) (hi : listed.getD i true = false) (h : Aft ops i j) : listed.getD j false = true → False := by
  induction h with
  | base ho he hb heq => intro hl; have := hc _ _ ho hl _ he hb; rw [heq] at this; exact getD_both hi this
  | step ho he hb _ ih => intro hl; exact ih (hc _ _ ho hl _ he hb)
theorem Aft.not_ready {listed : Array Bool} {i j : Nat} (hc : Closed ops listed) (hi : listed.getD i true = false) (hr : j ∈ Region.ready .any ops listed) : ¬ Aft ops i j := by
  obtain ⟨_, o, ho, hall⟩ := mem_ready.1 hr
  intro h
  cases h with
  | base ho' he hb heq =>
    rw [ho] at ho'; injection ho' with ho'; subst ho'
    have := hall _ he hb
    rw [heq] at this
    exact getD_both hi this
  | step ho' he hb h =>
    rw [ho] at ho'; injection ho' with ho'; subst ho'
    exact h.not_listed hc hi (hall _ he hb)
theorem Closed.set {listed : Array Bool} {j : Nat} (hc : Closed ops listed) (hr : j ∈ Region.ready .any ops listed) : Closed ops (listed.setIfInBounds j true) := by
  intro k ok hk hl e he hb
  by_cases hjk : j = k
  · subst hjk
    obtain ⟨_, o, ho, hall⟩ := mem_ready.1 hr
    rw [hk] at ho; injection ho with ho; subst ho
    exact getD_set_true (hall e he hb)
  · rw [getD_set_ne false hjk] at hl
    exact getD_set_true (hc k ok hk hl e he hb)

/-! ### Taking first -/
/-- an operation of class 0 or 1 yields v (or is not wanted) -/
def Fact (P : Program) (S : World → Prop) (ops : Array Oper) (k : Nat) (o : Oper) (v : Value) (a : Act) (W : World) : Prop :=
  (Region.wanted o (yielded ops a.tmps) = true ∧ factAt P S k o v a W) ∨ (Region.wanted o (yielded ops a.tmps) = false ∧ v = undef)
theorem Fact.of_same {k : Nat} {o : Oper} {v : Value} {a a' : Act} {W : World} (hy : Fact P S ops k o v a W) (he : execOp a'.eval o = execOp a.eval o)
    (hw : Region.wanted o (yielded ops a'.tmps) = Region.wanted o (yielded ops a.tmps)) : Fact P S ops k o v a' W := by
  unfold Fact factAt at *
  rw [he, hw]
  exact hy
theorem Fact.world {o : Oper} {v : Value} {a : Act} {W W' : World} (hy : Fact P S ops 0 o v a W) : Fact P S ops 0 o v a W' := hy
theorem Fact.pOp {i : Nat} {o : Oper} {v : Value} {a : Act} {W : World} (hi : ops[i]? = some o) (hk : c i ≤ 1) (hy : Fact P S ops (c i) o v a W) {K : Act → World → Prop} (h : K (a.put o.dst v) W) : pOp P S ops c i K a W := by
  unfold Pin.pOp
  simp only [hi]
  rcases hy with ⟨hw, hv⟩ | ⟨hw, rfl⟩
  · simp only [hw, if_true]
    unfold pUpon
    unfold factAt at hv
    split <;> split at hv
    · exact ⟨v, hv, h⟩
    · simp_all
    · simp_all
    · exact ⟨v, hv, h⟩
    · simp_all
    · exact absurd hk (ge2 (by assumption) (by assumption))
  · simp only [hw, Bool.false_eq_true, if_false]; exact h
theorem fact_of_pOp {i : Nat} {o : Oper} {a : Act} {W : World} {K : Act → World → Prop} (hi : ops[i]? = some o) (hk : c i ≤ 1) (h : pOp P S ops c i K a W) : ∃ v, Fact P S ops (c i) o v a W ∧ K (a.put o.dst v) W := by
  unfold Pin.pOp at h
  simp only [hi] at h
  by_cases hw : Region.wanted o (yielded ops a.tmps) = true
  · simp only [hw, if_true] at h
    unfold pUpon at h
    split at h
    · rename_i h0; obtain ⟨v, h1, h2⟩ := h; exact ⟨v, .inl ⟨hw, by unfold factAt; rw [h0]; exact h1⟩, h2⟩
    · rename_i h0; obtain ⟨v, h1, h2⟩ := h; exact ⟨v, .inl ⟨hw, by unfold factAt; rw [h0]; exact h1⟩, h2⟩
    · rename_i h0 h1; exact absurd hk (ge2 h0 h1)
  · simp only [hw] at h
    exact ⟨undef, .inr ⟨by simpa using hw, rfl⟩, h⟩

theorem writeAt_put {oi oj : Oper} {v : Value} {a : Act} {r : Result Next} {K : Act → World → Prop} {F : Act → World → Prop} (hF : ∀ u W, F (a.put oj.dst u) W)
    (h2 : ∀ d, oi.dst = some d → oj.dst ≠ some d) (h : writeAt P oj (a.put oi.dst v) K r) : writeAt P oj a (fun a' W' => F a' W' ∧ K (a'.put oi.dst v) W') r := by
  cases r with
  | ok n w' =>
    cases n <;> simp only [writeAt] at h ⊢
    case value u => obtain ⟨W', hm, hk⟩ := h; exact ⟨W', hm, hF _ _, by rw [← Act.put_comm a v u h2]; exact hk⟩
    case skip => obtain ⟨W', hm, hk⟩ := h; exact ⟨W', hm, hF _ _, by rw [← Act.put_comm a v undef h2]; exact hk⟩
    case enter f args => exact Calls.mono h fun e w'' ⟨u, W', he, hm, hk⟩ => ⟨u, W', he, hm, hF _ _, by rw [← Act.put_comm a v u h2]; exact hk⟩
  | halt x w' => exact h
/-- one operation of class 0 or 1 and another one: whether the first has yielded makes no difference -/
theorem pOp_put {i j : Nat} {oi oj : Oper} {v : Value} (hj : ops[j]? = some oj) (hap : oi.apart ops oj = true) (hcom : c i = 0 ∨ c j ≤ 1)
    (hsi : ∀ cs b, oi.op ≠ .select cs b) (hsj : ∀ cs b, oj.op ≠ .select cs b) {K : Act → World → Prop} {a : Act} {W : World}
    (hy : Fact P S ops (c i) oi v a W) (h : pOp P S ops c j K (a.put oi.dst v) W) :
    pOp P S ops c j (fun a' W' => Fact P S ops (c i) oi v a' W' ∧ K (a'.put oi.dst v) W') a W := by
  obtain ⟨h1, h2, h3⟩ := Oper.apart_spec hap
  have keep : ∀ u, Fact P S ops (c i) oi v (a.put oj.dst u) W := fun u => hy.of_same (execOp_put oi hsi a oj.dst u h3) (wanted_put oi a oj.dst u h3)
  unfold pOp at *
  simp only [hj] at *
  rw [wanted_put oj a oi.dst v h1] at h
  split
  · rename_i hw
    simp only [hw, if_true] at h
    unfold pUpon at *
    rw [execOp_put oj hsj a oi.dst v h1] at h
    split at h
    · obtain ⟨u, hu, hn⟩ := h
      exact ⟨u, hu, keep u, by rw [← Act.put_comm a v u h2]; exact hn⟩
    · obtain ⟨u, hu, hn⟩ := h
      exact ⟨u, hu, keep u, by rw [← Act.put_comm a v u h2]; exact hn⟩
    · rename_i h0 h1'
      have hi0 : c i = 0 := by rcases hcom with hc | hc; exact hc; exact absurd hc (ge2 h0 h1')
      have keep' : ∀ u W', Fact P S ops (c i) oi v (a.put oj.dst u) W' := fun u W' => by
        have := keep u
        rw [hi0] at this ⊢
        exact this
      exact fun n => writeAt_mono (fun _ _ hk => ⟨hk.2.1, hk.1, hk.2.2⟩) (writeAt_put (K := fun a' W' => S W' ∧ K a' W') keep' h2 (h n))
  · rename_i hw
    simp only [hw] at h
    exact ⟨keep _, by rw [← Act.put_comm a v undef h2]; exact h⟩

/-- taking first what reads or computes -/
theorem pAny_first {Q : Act → World → Prop} {i : Nat} {oi : Oper} {v : Value} (hi : ops[i]? = some oi) (hki : c i ≤ 1) (hsel : ∀ (j : Nat) (o : Oper) cs b, ops[j]? = some o → o.op ≠ .select cs b) :
    ∀ (fuel : Nat) (listed : Array Bool) (a : Act) (W : World),
      (∀ j oj, ops[j]? = some oj → j ≠ i → listed.getD j true = false → ¬ Aft ops i j → oi.apart ops oj = true ∧ (c i = 0 ∨ c j ≤ 1)) →
      i ∈ Region.ready .any ops listed → Fact P S ops (c i) oi v a W → S W → Closed ops listed →
      pAny P S ops c Q fuel (listed.setIfInBounds i true) (a.put oi.dst v) W → pAny P S ops c Q (fuel + 1) listed a W := by
  intro fuel
  induction fuel with
  | zero =>
    intro listed a W _ hr hy _ _ H
    refine ⟨fun h => (by rw [h] at hr; cases hr), fun j hj => ?_⟩
    by_cases hji : j = i
    · subst hji; exact hy.pOp hi hki H
    · have := ready_mono hj hji
      rw [H.1] at this
      cases this
  | succ fuel ih =>
    intro listed a W hfree hr hy hs hc H
    refine ⟨fun h => (by rw [h] at hr; cases hr), fun j hj => ?_⟩
    by_cases hji : j = i
    · subst hji; exact hy.pOp hi hki H
    · have h1 := H.2 j (ready_mono hj hji)
      obtain ⟨hjun, oj, hoj, _⟩ := mem_ready.1 hj
      have hnot : ¬ Aft ops i j := Aft.not_ready hc (mem_ready.1 hr).1 hj
      have hf := hfree j oj hoj hji hjun hnot
      have h2 := pOp_put (i := i) hoj hf.1 hf.2 (fun cs b => hsel i oi cs b hi) (fun cs b => hsel j oj cs b hoj) hy h1
      have hfree' : ∀ k ok, ops[k]? = some ok → k ≠ i → (listed.setIfInBounds j true).getD k true = false →
          ¬ Aft ops i k → oi.apart ops ok = true ∧ (c i = 0 ∨ c k ≤ 1) := fun k ok hk hki hun hno => by
        refine hfree k ok hk hki ?_ hno
        by_cases hjk : j = k
        · subst hjk; exact hjun
        · rw [getD_set_ne true hjk] at hun; exact hun
      refine pOp_mono hs (fun a' W' hs' h3 => ih (listed.setIfInBounds j true) a' W' hfree' (ready_mono hr (Ne.symm hji)) h3.1 hs' (hc.set hj) ?_) h2
      rw [Array.setIfInBounds_comm _ _ hji]
      exact h3.2

/-- out of a writing operation: some outcome -/
theorem writeAt_some {o : Oper} {a : Act} {K : Act → World → Prop} {r : Result Next} (h : writeAt P o a K r) : ∃ v W', K (a.put o.dst v) W' := by
  cases r with
  | ok n w' =>
    cases n <;> simp only [writeAt] at h
    case value v => exact let ⟨W', _, hk⟩ := h; ⟨v, W', hk⟩
    case skip => exact let ⟨W', _, hk⟩ := h; ⟨undef, W', hk⟩
    case enter f args =>
      obtain ⟨e, w', fr, ⟨v, W', _, _, hk⟩, _⟩ := h []
      exact ⟨v, W', hk⟩
  | halt x w' => exact h.elim
theorem pOp_some {i : Nat} {o : Oper} {a : Act} {W : World} {K : Act → World → Prop} (hi : ops[i]? = some o) (h : pOp P S ops c i K a W) : ∃ v W', K (a.put o.dst v) W' := by
  unfold pOp at h
  simp only [hi] at h
  split at h
  · unfold pUpon at h
    split at h
    · exact let ⟨v, _, hk⟩ := h; ⟨v, W, hk⟩
    · exact let ⟨v, _, hk⟩ := h; ⟨v, W, hk⟩
    · exact let ⟨v, W', hk⟩ := writeAt_some (h 0); ⟨v, W', hk.2⟩
  · exact ⟨undef, W, h⟩
theorem Fact.one {o : Oper} {u v : Value} {a : Act} {W W' : World} (hs : S W) (h : Fact P S ops 0 o u a W) (h' : Fact P S ops 0 o v a W') : u = v := by
  rcases h with ⟨hw, h⟩ | ⟨hw, rfl⟩ <;> rcases h' with ⟨hw', h'⟩ | ⟨hw', rfl⟩
  · have e := (h W hs).symm.trans (h' W hs)
    injection e with e
    injection e
  · rw [hw] at hw'; cases hw'
  · rw [hw] at hw'; cases hw'
  · rfl
theorem writeAt_swap {oi oj : Oper} {u : Value} {a : Act} {K K' : Act → World → Prop} {r : Result Next}
    (h2 : ∀ d, oj.dst = some d → oi.dst ≠ some d) (hk : ∀ x W', K (a.put oi.dst x) W' → K' ((a.put oi.dst x).put oj.dst u) W') (h : writeAt P oi a K r) : writeAt P oi (a.put oj.dst u) K' r := by
  cases r with
  | ok n w' =>
    cases n <;> simp only [writeAt] at h ⊢
    case value x => obtain ⟨W', hm, hx⟩ := h; exact ⟨W', hm, by rw [Act.put_comm a u x h2]; exact hk x W' hx⟩
    case skip => obtain ⟨W', hm, hx⟩ := h; exact ⟨W', hm, by rw [Act.put_comm a u undef h2]; exact hk undef W' hx⟩
    case enter f args => exact Calls.mono h fun e w'' ⟨x, W', he, hm, hx⟩ => ⟨x, W', he, hm, by rw [Act.put_comm a u x h2]; exact hk x W' hx⟩
  | halt x w' => exact h
/-- taking first what writes, where all that may come ahead of it does not look at the world -/
theorem pAny_write {Q : Act → World → Prop} {i : Nat} {oi : Oper} (hi : ops[i]? = some oi) (hki : 2 ≤ c i) (hsel : ∀ (j : Nat) (o : Oper) cs b, ops[j]? = some o → o.op ≠ .select cs b) :
    ∀ (fuel : Nat) (listed : Array Bool) (a : Act) (W : World),
      (∀ j oj, ops[j]? = some oj → j ≠ i → listed.getD j true = false → ¬ Aft ops i j → oi.apart ops oj = true ∧ oj.apart ops oi = true ∧ c j = 0) →
      i ∈ Region.ready .any ops listed → S W → Closed ops listed →
      pOp P S ops c i (pAny P S ops c Q fuel (listed.setIfInBounds i true)) a W → pAny P S ops c Q (fuel + 1) listed a W := by
  intro fuel
  induction fuel with
  | zero =>
    intro listed a W _ hr _ _ H
    refine ⟨fun h => (by rw [h] at hr; cases hr), fun j hj => ?_⟩
    by_cases hji : j = i
    · subst hji; exact H
    · obtain ⟨v, W', H'⟩ := pOp_some hi H
      have := ready_mono hj hji
      rw [H'.1] at this
      cases this
  | succ fuel ih =>
    intro listed a W hfree hr hs hc H
    refine ⟨fun h => (by rw [h] at hr; cases hr), fun j hj => ?_⟩
    by_cases hji : j = i
    · subst hji; exact H
    · obtain ⟨hjun, oj, hoj, _⟩ := mem_ready.1 hj
      have hnot : ¬ Aft ops i j := Aft.not_ready hc (mem_ready.1 hr).1 hj
      obtain ⟨hap, hap', hj0⟩ := hfree j oj hoj hji hjun hnot
      obtain ⟨g1, g2, g3⟩ := Oper.apart_spec hap
      obtain ⟨k1, k2, k3⟩ := Oper.apart_spec hap'
      have hsi : ∀ cs b, oi.op ≠ .select cs b := fun cs b => hsel i oi cs b hi
      have hsj : ∀ cs b, oj.op ≠ .select cs b := fun cs b => hsel j oj cs b hoj
      -- what comes of j behind i is what comes of j now
      have after : ∀ x W', pAny P S ops c Q (fuel + 1) (listed.setIfInBounds i true) (a.put oi.dst x) W' →
          ∃ u, Fact P S ops 0 oj u a W ∧ pAny P S ops c Q fuel ((listed.setIfInBounds i true).setIfInBounds j true) ((a.put oi.dst x).put oj.dst u) W' := fun x W' hx => by
        obtain ⟨u, hu, hk⟩ := fact_of_pOp hoj (by omega) (hx.2 j (ready_mono hj hji))
        rw [hj0] at hu
        exact ⟨u, (Fact.of_same hu (execOp_put oj hsj a oi.dst x g1).symm (wanted_put oj a oi.dst x g1).symm).world, hk⟩
      obtain ⟨x0, W0, H0⟩ := pOp_some hi H
      obtain ⟨u, hu, _⟩ := after x0 W0 H0
      have hfree' : ∀ k ok, ops[k]? = some ok → k ≠ i → (listed.setIfInBounds j true).getD k true = false →
          ¬ Aft ops i k → oi.apart ops ok = true ∧ ok.apart ops oi = true ∧ c k = 0 := fun k ok hk hki hun hno => by
        refine hfree k ok hk hki ?_ hno
        by_cases hjk : j = k
        · subst hjk; exact hjun
        · rw [getD_set_ne true hjk] at hun; exact hun
      refine Fact.pOp hoj (by omega) (v := u) (by rw [hj0]; exact hu) ?_
      refine ih (listed.setIfInBounds j true) (a.put oj.dst u) W hfree' (ready_mono hr (Ne.symm hji)) hs (hc.set hj) ?_
      -- i behind j
      have hk : ∀ x W', pAny P S ops c Q (fuel + 1) (listed.setIfInBounds i true) (a.put oi.dst x) W' →
          pAny P S ops c Q fuel ((listed.setIfInBounds j true).setIfInBounds i true) ((a.put oi.dst x).put oj.dst u) W' := fun x W' hx => by
        obtain ⟨u', hu', hk⟩ := after x W' hx
        obtain rfl := Fact.one hs hu hu'
        rw [Array.setIfInBounds_comm _ _ hji]
        exact hk
      unfold pOp at H ⊢
      simp only [hi] at H ⊢
      rw [wanted_put oi a oj.dst u k1]
      split
      · rename_i hw
        simp only [hw, if_true] at H
        unfold pUpon at H ⊢
        split at H
        · rename_i h0; exact absurd hki (by omega)
        · rename_i h0; exact absurd hki (by omega)
        · intro n
          rw [execOp_put oi hsi a oj.dst u k1]
          exact writeAt_swap (K' := fun a' W' => S W' ∧ pAny P S ops c Q fuel ((listed.setIfInBounds j true).setIfInBounds i true) a' W') k2 (fun x W' hx => ⟨hx.1, hk x W' hx.2⟩) (H n)
      · rename_i hw
        simp only [hw] at H
        rw [Act.put_comm a u undef k2]
        exact hk undef W H
end

/-! ### The lexical order -/
section
variable {P : Program} {S : World → Prop} {ops : Array Oper}
/-- the numbers that come behind i, by steps -/
def aftL (ops : Array Oper) (i : Nat) : Nat → List Nat
  | 0 => []
  | k + 1 => match ops[k]? with
    | some o => if o.after.any (fun e => Region.binds .any e && (e.on == i || (aftL ops i k).contains e.on)) then k :: aftL ops i k else aftL ops i k
    | none => aftL ops i k
theorem aftL_spec (i : Nat) : ∀ (n j : Nat), j ∈ aftL ops i n → Aft ops i j
  | 0, _, h => by cases h
  | k + 1, j, h => by
    unfold aftL at h
    split at h
    · rename_i o ho
      split at h
      · rename_i hany
        rcases List.mem_cons.1 h with rfl | h
        · obtain ⟨e, he, hb⟩ := Array.any_eq_true'.1 hany
          simp only [Bool.and_eq_true, Bool.or_eq_true, beq_iff_eq, List.contains_iff_mem] at hb
          rcases hb with ⟨hb, h1 | h1⟩
          · exact .base ho he hb h1
          · exact .step ho he hb (aftL_spec i _ _ h1)
        · exact aftL_spec i k j h
      · exact aftL_spec i k j h
    · exact aftL_spec i k j h
def pinFree (c : Nat → Nat) (ops : Array Oper) (listed : Array Bool) (i : Nat) : Bool :=
  match ops[i]? with
  | none => false
  | some oi => let behind := aftL ops i ops.size
    (List.range ops.size).all fun j => j == i || listed.getD j true || match ops[j]? with
      | some oj => behind.contains j || (oi.apart ops oj && (c i == 0 || (c i == 1 && decide (c j ≤ 1)) || (oj.apart ops oi && c j == 0)))
      | none => true
theorem pinFree_spec {c : Nat → Nat} {i : Nat} {oi : Oper} {listed : Array Bool} (hi : ops[i]? = some oi) (h : pinFree c ops listed i = true) (j : Nat) (oj : Oper)
    (hj : ops[j]? = some oj) (hne : j ≠ i) (hun : listed.getD j true = false) (hno : ¬ Aft ops i j) :
    oi.apart ops oj = true ∧ (c i = 0 ∨ (c i = 1 ∧ c j ≤ 1) ∨ (oj.apart ops oi = true ∧ c j = 0)) := by
  simp only [pinFree, hi, List.all_eq_true, List.mem_range] at h
  have h1 := h j (Array.getElem?_eq_some_iff.1 hj).1
  simp only [hj, Bool.or_eq_true, beq_iff_eq, hne, false_or, hun, Bool.false_eq_true, Bool.and_eq_true, decide_eq_true_eq] at h1
  rcases h1 with h1 | h1
  · exact absurd (aftL_spec i _ j (by simpa using h1)) hno
  · refine ⟨h1.1, ?_⟩
    rcases h1.2 with (h | h) | h
    · exact .inl h
    · exact .inr (.inl h)
    · exact .inr (.inr h)
def pinFrom (c : Nat → Nat) (ops : Array Oper) : Nat → Nat → Array Bool → Bool
  | 0, _, listed => (Region.ready .any ops listed).isEmpty
  | fuel + 1, k, listed => (Region.ready .any ops listed).contains k && pinFree c ops listed k && pinFrom c ops fuel (k + 1) (listed.setIfInBounds k true)
/-- may the region be walked in its own order? cs: the classes of its operations -/
def pinB (cs : List Nat) (ops : Array Oper) : Bool := Region.noSelect ops && pinFrom (fun i => cs.getD i 2) ops ops.size 0 (Array.replicate ops.size false)
/-- the walk in the region's own order -/
def pLex (P : Program) (S : World → Prop) (ops : Array Oper) (Q : Act → World → Prop) : List Nat → List Oper → Act → World → Prop
  | _, [], a, W => Q a W
  | [], o :: rest, a, W => if Region.wanted o (yielded ops a.tmps) then pUpon P S 2 o a W (pLex P S ops Q [] rest) else pLex P S ops Q [] rest (a.put o.dst undef) W
  | k :: cs, o :: rest, a, W => if Region.wanted o (yielded ops a.tmps) then pUpon P S k o a W (pLex P S ops Q cs rest) else pLex P S ops Q cs rest (a.put o.dst undef) W
theorem pAny_lex {c : Nat → Nat} {Q : Act → World → Prop} (hs : Region.noSelect ops = true) : ∀ (l : List Oper) (cs : List Nat) (k : Nat) (listed : Array Bool) (a : Act) (W : World), (∀ j, l[j]? = ops[k + j]?) → (∀ j, c (k + j) = cs.getD j 2) →
    pinFrom c ops l.length k listed = true → S W → Closed ops listed → pLex P S ops Q cs l a W → pAny P S ops c Q l.length listed a W
  | [], _, _, _, _, _, _, _, hB, _, _, h => ⟨by simpa [pinFrom] using hB, by unfold pLex at h; exact h⟩
  | o :: l, cs, k, listed, a, W, hl, hc, hB, hs', hcl, h => by
    have h0 : ops[k]? = some o := by simpa using (hl 0).symm
    simp only [List.length_cons, pinFrom, Bool.and_eq_true] at hB
    obtain ⟨⟨hr, hf⟩, hB'⟩ := hB
    have hk0 : c k = cs.getD 0 2 := by simpa using hc 0
    have hl' : ∀ j, l[j]? = ops[(k + 1) + j]? := fun j => by have := hl (j + 1); simpa [Nat.add_assoc, Nat.add_comm 1 j] using this
    have hc' : ∀ j, c ((k + 1) + j) = (cs.drop 1).getD j 2 := fun j => by
      have := hc (j + 1)
      rw [show k + (j + 1) = (k + 1) + j by omega] at this
      rw [this]
      cases cs <;> simp
    have hst : pOp P S ops c k (pLex P S ops Q (cs.drop 1) l) a W := by
      unfold pOp
      simp only [h0, hk0]
      cases cs with
      | nil => unfold pLex at h; simpa using h
      | cons x xs => unfold pLex at h; simpa using h
    have ih : ∀ a' W', S W' → pLex P S ops Q (cs.drop 1) l a' W' → pAny P S ops c Q l.length (listed.setIfInBounds k true) a' W' := fun a' W' hs'' h' =>
      pAny_lex hs l (cs.drop 1) (k + 1) _ a' W' hl' hc' hB' hs'' (hcl.set (by simpa using hr)) h'
    have hfree := pinFree_spec h0 hf
    by_cases hk : c k ≤ 1
    · obtain ⟨v, hy, hK⟩ := fact_of_pOp h0 hk hst
      refine pAny_first h0 hk (Region.noSelect_spec hs) l.length listed a W (fun j oj hj hne hun hno => ?_) (by simpa using hr) hy hs' hcl (ih _ _ hs' hK)
      obtain ⟨h1, h2⟩ := hfree j oj hj hne hun hno
      exact ⟨h1, by rcases h2 with h2 | ⟨_, h2⟩ | ⟨_, h2⟩ <;> omega⟩
    · refine pAny_write h0 (by omega) (Region.noSelect_spec hs) l.length listed a W (fun j oj hj hne hun hno => ?_) (by simpa using hr) hs' hcl (pOp_mono hs' ih hst)
      obtain ⟨h1, h2⟩ := hfree j oj hj hne hun hno
      rcases h2 with h2 | ⟨h2, _⟩ | ⟨h3, h4⟩
      · omega
      · omega
      · exact ⟨h1, h3, h4⟩
/-- **One walk in the region's own order serves every order**, where its classes pin it; class 0 may look at what S fixes. -/
theorem wp_region_pinS (S : World → Prop) {id : Nat} {Q : Exit → Act → World → Prop} {a : Act} {w : World} {l : List Oper} (cs : List Nat) (hm : P.follows .mixedOrders = true) (hB : pinB cs l.toArray = true)
    (hcl : ∀ w n, S w → S (w.drewN n)) (hs : S w)
    (h : pLex P S l.toArray (fun a' W => ∀ n, Q .normal a' (W.drewN n)) cs l a w) : (Code.region id l.toArray true).wp P Q a w := by
  simp only [pinB, Bool.and_eq_true] at hB
  refine wp_region_any hm (wpAny_of_pAny (S := S) (c := fun i => cs.getD i 2) hcl (Q := fun a' W => ∀ n, Q .normal a' (W.drewN n)) (fun a W w' ⟨_, n, hn⟩ h => by subst hn; exact h n) _ _ _ w _ ⟨hs, 1, rfl⟩ ?_)
  have := pAny_lex (S := S) (c := fun i => cs.getD i 2) hB.1 l cs 0 (Array.replicate l.toArray.size false) a w (by simp) (fun j => by simp) (by simpa using hB.2) hs (fun j oj _ hl => by simp [Array.getD] at hl) h
  simpa using this
/-- no condition -/
def Any (_ : World) : Prop := True
theorem wp_region_pin {id : Nat} {Q : Exit → Act → World → Prop} {a : Act} {w : World} {l : List Oper} (cs : List Nat) (hm : P.follows .mixedOrders = true) (hB : pinB cs l.toArray = true)
    (h : pLex P Any l.toArray (fun a' W => ∀ n, Q .normal a' (W.drewN n)) cs l a w) : (Code.region id l.toArray true).wp P Q a w :=
  wp_region_pinS Any cs hm hB (fun _ _ _ => trivial) trivial h

/-! ### The steps of the walk -/
variable {Q : Act → World → Prop} {o : Oper} {rest : List Oper} {a : Act} {W : World} {cs : List Nat}
theorem pin_nil (h : Q a W) : pLex P S ops Q cs [] a W := by unfold pLex; exact h
/-- what does not look at the world -/
theorem pin_pure (h : ∀ K : Act → World → Prop, (∀ a W, pLex P S ops Q cs rest a W → K a W) → if Region.wanted o (yielded ops a.tmps) = true then ∃ v, (∀ w, (execOp a.eval o).run P w = .ok (.value v) w) ∧ K (a.put o.dst v) W else K (a.put o.dst undef) W) :
    pLex P S ops Q (0 :: cs) (o :: rest) a W := by
  unfold pLex
  have := h _ (fun _ _ h => h)
  split
  · rename_i hw
    simp only [hw, if_true] at this
    obtain ⟨v, hv, hk⟩ := this
    exact ⟨v, fun w _ => hv w, hk⟩
  · rename_i hw
    simp only [hw] at this
    exact this
/-- what looks only at what S fixes -/
theorem pin_fixed (h : ∀ K : Act → World → Prop, (∀ a W, pLex P S ops Q cs rest a W → K a W) → if Region.wanted o (yielded ops a.tmps) = true then ∃ v, (∀ w, S w → (execOp a.eval o).run P w = .ok (.value v) w) ∧ K (a.put o.dst v) W else K (a.put o.dst undef) W) :
    pLex P S ops Q (0 :: cs) (o :: rest) a W := by
  unfold pLex
  exact h _ (fun _ _ h => h)
/-- what reads -/
theorem pin_read (h : ∀ K : Act → World → Prop, (∀ a W, pLex P S ops Q cs rest a W → K a W) → if Region.wanted o (yielded ops a.tmps) = true then ∃ v, (∀ n, readAt P W n v ((execOp a.eval o).run P (W.drewN n))) ∧ K (a.put o.dst v) W else K (a.put o.dst undef) W) :
    pLex P S ops Q (1 :: cs) (o :: rest) a W := by
  unfold pLex
  exact h _ (fun _ _ h => h)
/-- what writes -/
theorem pin_writeS (h : ∀ K : Act → World → Prop, (∀ a W, S W → pLex P S ops Q cs rest a W → K a W) → if Region.wanted o (yielded ops a.tmps) = true then ∀ n, writeAt P o a K ((execOp a.eval o).run P (W.drewN n)) else ∀ K' : Act → World → Prop, (∀ a W, pLex P S ops Q cs rest a W → K' a W) → K' (a.put o.dst undef) W) :
    pLex P S ops Q (2 :: cs) (o :: rest) a W := by
  unfold pLex
  have := h (fun a W => S W ∧ pLex P S ops Q cs rest a W) (fun _ _ hs h => ⟨hs, h⟩)
  split
  · rename_i hw
    simp only [hw, if_true] at this
    exact this
  · rename_i hw
    simp only [hw] at this
    exact this _ (fun _ _ h => h)
theorem pin_write (h : ∀ K : Act → World → Prop, (∀ a W, pLex P Any ops Q cs rest a W → K a W) → if Region.wanted o (yielded ops a.tmps) = true then ∀ n, writeAt P o a K ((execOp a.eval o).run P (W.drewN n)) else K (a.put o.dst undef) W) :
    pLex P Any ops Q (2 :: cs) (o :: rest) a W := by
  unfold pLex
  have := h (fun a W => Any W ∧ pLex P Any ops Q cs rest a W) (fun _ _ h => ⟨trivial, h⟩)
  split
  · rename_i hw
    simp only [hw, if_true] at this
    exact this
  · rename_i hw
    simp only [hw] at this
    exact this.2
end

/-! ### For the walk -/
theorem setCell_drewN (w : World) (a : Addr) (v : Value) (n : Nat) : (w.drewN n).setCell a v = (w.setCell a v).drewN n := rfl
theorem alloc_drewN (w : World) (o : Obj) (n : Nat) : (w.drewN n).alloc o = (w.alloc o).drewN n := rfl
theorem setRow_drewN (w : World) (g : Nat) (cs : Array Value) (n : Nat) : (w.drewN n).setRow g cs = (w.setRow g cs).drewN n := rfl
attribute [go_sem] readAt writeAt setCell_drewN alloc_drewN
theorem below_drewN {B : Nat} {a w : World} (h : Go.RowKit.Below B a w) (n : Nat) : Go.RowKit.Below B a (w.drewN n) := ⟨h.os, h.tape, h.output, h.size, h.block⟩
/-- a callee that leaves the world alone -/
theorem read_same {P : Program} {f : FuncId} {args : Array Value} {W : World} {n : Nat} {v : Value} (h : Calls P f args (W.drewN n) fun e w' => e = .returned v ∧ W.drewN n = w') :
    Calls P f args (W.drewN n) fun e w'' => e = .returned v ∧ ∃ m, w'' = W.drewN m := h.mono fun _ _ ⟨he, hw⟩ => ⟨he, n, hw.symm⟩
theorem read_same_add {P : Program} {f : FuncId} {args : Array Value} {W : World} {k n : Nat} {v : Value} (h : Calls P f args (W.drewN (k + n)) fun e w' => e = .returned v ∧ W.drewN (k + n) = w') :
    Calls P f args (W.drewN (k + n)) fun e w'' => e = .returned v ∧ ∃ m, w'' = W.drewN (k + m) := h.mono fun _ _ ⟨he, hw⟩ => ⟨he, n, hw.symm⟩
/-- a callee that leaves the world alone but for draws -/
theorem read_drew {P : Program} {f : FuncId} {args : Array Value} {W : World} {n : Nat} {v : Value} (h : Calls P f args (W.drewN n) fun e w' => e = .returned v ∧ ∃ m, w' = (W.drewN n).drewN m) :
    Calls P f args (W.drewN n) fun e w'' => e = .returned v ∧ ∃ m, w'' = W.drewN m := h.mono fun _ _ ⟨he, m, hw⟩ => ⟨he, n + m, by rw [hw, World.drewN_drewN]⟩
end Go.Proofs.YtnoalklbgncajaaDoor.Pin
