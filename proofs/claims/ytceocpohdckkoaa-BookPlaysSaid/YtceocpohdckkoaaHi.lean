/- Regions that draw their order, inside the wide fence (they may call yield): what the loads read need hold till number t alone. -/
import Derived.Test.YtceocpohdckkoaaHe
import Derived.OrdersIn
import Derived.RangeFuncSeq
namespace Go.Proofs.Ytceocpohdckkoaa.Hi
open He
set_option linter.unusedSimpArgs false
set_option linter.unusedVariables false

section
variable {P : Program} {ops : Array Oper} {Q : Exit → Act → World → Prop} {md : Region.Mode} {S : World → Prop} {t : List Nat} {m : Nat}

theorem yields_in {i : Nat} {o : Oper} {v : Value} {a : Act} (hi : ops[i]? = some o) (hy : YieldsIf P ops S o v a) {K : Act → World → Prop} {w : World} (hS : S w) (h : K (a.put o.dst v) w) : wpOpIn Fence.wide m P ops Q i K a w := by
  unfold wpOpIn
  simp only [hi]
  rcases hy with ⟨hw, hv⟩ | ⟨hw, rfl⟩
  · simp only [hw, if_true]
    refine ⟨fun _ _ => trivial, ?_⟩
    show o.uponIn Fence.wide m P a K Q ((execOp a.eval o).run P w)
    rw [hv w hS]
    exact h
  · simp only [hw, Bool.false_eq_true, if_false]
    exact ⟨fun _ _ => trivial, h⟩
theorem yields_same {o : Oper} {v : Value} {a a' : Act} (hy : YieldsIf P ops S o v a) (he : execOp a'.eval o = execOp a.eval o) (hw : Region.wanted o (yielded ops a'.tmps) = Region.wanted o (yielded ops a.tmps)) : YieldsIf P ops S o v a' := by
  unfold YieldsIf at *
  rw [he, hw]
  exact hy
theorem op_put {j : Nat} {oi oj : Oper} {v : Value} (hj : ops[j]? = some oj) (hap : oi.apart ops oj = true) (hsi : ∀ cs b, oi.op ≠ .select cs b) (hsj : ∀ cs b, oj.op ≠ .select cs b)
    (hQ : ∀ c a w, Q (.panic c) (a.put oi.dst v) w → Q (.panic c) a w) {K : Act → World → Prop} {a : Act} {w : World} (hy : YieldsIf P ops S oi v a) (h : wpOpIn Fence.wide m P ops Q j K (a.put oi.dst v) w) :
    wpOpIn Fence.wide m P ops Q j (fun a' w' => YieldsIf P ops S oi v a' ∧ K (a'.put oi.dst v) w') a w := by
  obtain ⟨h1, h2, h3⟩ := Oper.apart_spec hap
  have keep : ∀ u, YieldsIf P ops S oi v (a.put oj.dst u) := fun u => yields_same hy (execOp_put oi hsi a oj.dst u h3) (wanted_put oi a oj.dst u h3)
  have keepD : ∀ d u, YieldsIf P ops S oi v ({ a with defers := d :: a.defers }.put oj.dst u) := fun d u => by
    have hd : YieldsIf P ops S oi v { a with defers := d :: a.defers } := yields_same hy rfl rfl
    exact yields_same hd (execOp_put oi hsi _ oj.dst u h3) (wanted_put oi _ oj.dst u h3)
  unfold wpOpIn at *
  simp only [hj] at *
  rw [wanted_put oj a oi.dst v h1] at h
  split
  · rename_i hw
    simp only [hw, if_true] at h
    refine ⟨fun _ _ => trivial, ?_⟩
    have h := h.2
    show oj.uponIn Fence.wide m P a _ Q ((execOp a.eval oj).run P w)
    have h' : oj.uponIn Fence.wide m P (a.put oi.dst v) K Q ((execOp (a.put oi.dst v).eval oj).run P w) := h
    rw [execOp_put oj hsj a oi.dst v h1] at h'
    clear h
    generalize (execOp a.eval oj).run P w = r at *
    cases r with
    | ok x w' =>
      cases x with
      | value u =>
        simp only [Oper.uponIn] at h' ⊢
        exact ⟨keep u, by rw [← Act.put_comm a v u h2]; exact h'⟩
      | skip =>
        simp only [Oper.uponIn] at h' ⊢
        exact ⟨keep _, by rw [← Act.put_comm a v undef h2]; exact h'⟩
      | defer d =>
        simp only [Oper.uponIn] at h' ⊢
        refine ⟨keepD d _, ?_⟩
        rw [← Act.put_comm _ v undef h2, ← Act.put_defers]
        exact h'
      | enter f args =>
        simp only [Oper.uponIn] at h' ⊢
        refine ⟨h'.1, CallsIn.mono h'.2 fun e w'' he => ?_⟩
        cases e with
        | returned u => exact ⟨keep u, by rw [← Act.put_comm a v u h2]; exact he⟩
        | panicked c => exact hQ _ _ _ he
        | outgrown => exact he
      | row row args =>
        simp only [Oper.uponIn] at h' ⊢
        exact ⟨h'.1, RowsIn.mono h'.2 fun u w'' he => ⟨keep u, by rw [← Act.put_comm a v u h2]; exact he⟩⟩
      | round l f tmps assign body =>
        simp only [Oper.uponIn] at h' ⊢
        refine ⟨h'.1, RoundIn.mono h'.2 fun e w'' he => ?_⟩
        cases e with
        | returned u => exact ⟨keep u, by rw [← Act.put_comm a v u h2]; exact he⟩
        | panicked c => exact hQ _ _ _ he
        | outgrown => exact he
      | _ => exact h'.elim
    | halt x w' =>
      cases x with
      | panic u => exact hQ _ _ _ h'
      | _ => exact h'.elim
  · rename_i hw
    simp only [hw] at h
    exact ⟨fun _ _ => trivial, keep _, by rw [← Act.put_comm a v undef h2]; exact h.2⟩

/-- All of t wait for i. -/
def waitsA (md : Region.Mode) (ops : Array Oper) (t : List Nat) (i : Nat) (l : List Nat) : Bool := t.all fun x => waitsB md ops x i l
theorem open_all {i j : Nat} {l : List Nat} {listed : Array Bool} (hW : waitsA md ops t i l = true) (hne : t ≠ []) (hO : openB listed l = true) (hj : j ∈ Region.ready md ops listed) (hji : j ≠ i) : j ∉ t ∧ openB (listed.setIfInBounds j true) l = true := by
  simp only [waitsA, List.all_eq_true] at hW
  refine ⟨fun h => (open_step (hW j h) hO hj hji).1 rfl, ?_⟩
  cases t with
  | nil => exact absurd rfl hne
  | cons x l => exact (open_step (hW x (by simp)) hO hj hji).2
/-- Whatever order is picked from here on; behind each operation but those of t S holds. -/
def wpE (m : Nat) (P : Program) (md : Region.Mode) (ops : Array Oper) (Q : Exit → Act → World → Prop) (S : World → Prop) (t : List Nat) : Nat → Array Bool → Act → World → Prop
  | 0, listed, a, w => Region.ready md ops listed = [] ∧ Q .normal a w
  | n + 1, listed, a, w => (Region.ready md ops listed = [] → Q .normal a w) ∧ ∀ i ∈ Region.ready md ops listed, wpOpIn Fence.wide m P ops Q i (fun a' w' => (i ∉ t → S w') ∧ wpE m P md ops Q S t n (listed.setIfInBounds i true) a' w') a w
theorem wpE_any : ∀ (n : Nat) (listed : Array Bool) (a : Act) (w : World), wpE m P md ops Q S t n listed a w → wpAnyIn Fence.wide m P md ops Q n listed a w
  | 0, _, _, _, h => h
  | n + 1, _, _, _, h => ⟨h.1, fun i hi => wpOpIn_mono (fun a' w' h' => wpE_any n _ a' w' h'.2) (h.2 i hi)⟩
theorem wpE_first {i : Nat} {oi : Oper} {v : Value} {l : List Nat} (hi : ops[i]? = some oi) (hsel : ∀ (j : Nat) (o : Oper) cs b, ops[j]? = some o → o.op ≠ .select cs b) (hQ : ∀ c a w, Q (.panic c) (a.put oi.dst v) w → Q (.panic c) a w) (hne : t ≠ []) (hW : waitsA md ops t i l = true) :
    ∀ (n : Nat) (listed : Array Bool) (a : Act) (w : World), openB listed l = true → (∀ j oj, ops[j]? = some oj → j ≠ i → listed.getD j true = false → (∀ e ∈ oj.after, Region.binds md e = true → e.on ≠ i) → oi.apart ops oj = true) →
      i ∈ Region.ready md ops listed → YieldsIf P ops S oi v a → S w → wpE m P md ops Q S t n (listed.setIfInBounds i true) (a.put oi.dst v) w → wpE m P md ops Q S t (n + 1) listed a w := by
  intro n
  induction n with
  | zero =>
    intro listed a w _ _ hr hy hS H
    refine ⟨fun h => (by rw [h] at hr; cases hr), fun j hj => ?_⟩
    by_cases e : j = i
    · subst e; exact yields_in hi hy hS ⟨fun _ => hS, H⟩
    · have h := ready_mono hj e
      rw [H.1] at h
      cases h
  | succ n ih =>
    intro listed a w hO hfree hr hy hS H
    refine ⟨fun h => (by rw [h] at hr; cases hr), fun j hj => ?_⟩
    by_cases e : j = i
    · subst e; exact yields_in hi hy hS ⟨fun _ => hS, H⟩
    · have h1 := H.2 j (ready_mono hj e)
      obtain ⟨hjt, hO'⟩ := open_all hW hne hO hj e
      obtain ⟨hjun, oj, hoj, hall⟩ := mem_ready.1 hj
      have hnot : ∀ x ∈ oj.after, Region.binds md x = true → x.on ≠ i := fun x hx hb heq => by
        have h2 := hall x hx hb
        rw [heq] at h2
        exact unlisted_of (mem_ready.1 hr).1 h2
      have h2 := op_put hoj (hfree j oj hoj e hjun hnot) (fun cs b => hsel i oi cs b hi) (fun cs b => hsel j oj cs b hoj) hQ hy h1
      refine wpOpIn_mono (fun a' w' h3 => ⟨fun _ => h3.2.1 hjt, ih (listed.setIfInBounds j true) a' w' hO' (fun k ok hk hki hun hno => ?_) (ready_mono hr (Ne.symm e)) h3.1 (h3.2.1 hjt) ?_⟩) h2
      · refine hfree k ok hk hki ?_ hno
        by_cases f : j = k
        · subst f; exact hjun
        · rw [getD_set_ne true f] at hun; exact hun
      · rw [Array.setIfInBounds_comm _ _ e]
        exact h3.2.2

/-- Number i is taken first. -/
theorem wpE_take {i : Nat} {oi : Oper} {v : Value} {n : Nat} {listed : Array Bool} {a : Act} {w : World} (hi : ops[i]? = some oi)
    (hs : Region.noSelect ops = true) (hf : Region.free md ops listed i = true) (hr : (Region.ready md ops listed).contains i = true) (hne : t ≠ []) (hW : waitsA md ops t i (desc md ops i) = true) (hO : openB listed (desc md ops i) = true)
    (hQ : ∀ c a w, Q (.panic c) (a.put oi.dst v) w → Q (.panic c) a w) (hw : Region.wanted oi (yielded ops a.tmps) = true) (hy : ∀ w, S w → (execOp a.eval oi).run P w = .ok (.value v) w) (hS : S w)
    (h : wpE m P md ops Q S t n (listed.setIfInBounds i true) (a.put oi.dst v) w) : wpE m P md ops Q S t (n + 1) listed a w :=
  wpE_first hi (Region.noSelect_spec hs) hQ hne hW n listed a w hO (Region.free_spec hi hf) (by simpa using hr) (.inl ⟨hw, hy⟩) hS h

/-- Number i alone may come up: it is carried out. -/
theorem wpE_one {i : Nat} {oi : Oper} {n : Nat} {listed : Array Bool} {a : Act} {w : World} (hr : Region.ready md ops listed = [i]) (hi : ops[i]? = some oi) (hw : Region.wanted oi (yielded ops a.tmps) = true)
    (h : oi.uponIn Fence.wide m P a (fun a' w' => (i ∉ t → S w') ∧ wpE m P md ops Q S t n (listed.setIfInBounds i true) a' w') Q ((execOp a.eval oi).run P w)) : wpE m P md ops Q S t (n + 1) listed a w := by
  refine ⟨fun h0 => (by rw [h0] at hr; cases hr), fun j hj => ?_⟩
  rw [hr] at hj
  obtain rfl : j = i := by simpa using hj
  unfold wpOpIn
  rw [hi]
  simp only [hw, if_true]
  exact ⟨fun _ _ => trivial, h⟩
/-- A call of a function. -/
theorem wpE_call {i : Nat} {oi : Oper} {n : Nat} {listed : Array Bool} {a : Act} {w : World} {f : FuncId} {args : Array Value} (hr : Region.ready md ops listed = [i]) (hi : ops[i]? = some oi) (hw : Region.wanted oi (yielded ops a.tmps) = true)
    (he : (execOp a.eval oi).run P w = .ok (.enter f args) w)
    (h : Calls P f args w fun e w' => ∃ v, e = .returned v ∧ (i ∉ t → S w') ∧ wpE m P md ops Q S t n (listed.setIfInBounds i true) (a.put oi.dst v) w') : wpE m P md ops Q S t (n + 1) listed a w := by
  refine wpE_one hr hi hw ?_
  rw [he]
  refine ⟨fun h => by simp [Fence.wide] at h, (callsIn_wide.2 h).mono ?_⟩
  rintro e w' ⟨v, rfl, h1, h2⟩
  exact ⟨h1, h2⟩
/-- A call of yield. -/
theorem wpE_yield {i : Nat} {oi : Oper} {n : Nat} {listed : Array Bool} {a : Act} {w : World} {l : Nat} {args : Array Value} {R : Ending → World → Prop} (hr : Region.ready md ops listed = [i]) (hi : ops[i]? = some oi) (hw : Region.wanted oi (yielded ops a.tmps) = true)
    (he : (execOp a.eval oi).run P w = (Instr.yield l args).run P w) (hy : YieldAt Fence.wide (m - 1) P l args w R)
    (h : ∀ e w', R e w' → ∃ v, e = .returned v ∧ (i ∉ t → S w') ∧ wpE m P md ops Q S t n (listed.setIfInBounds i true) (a.put oi.dst v) w') : wpE m P md ops Q S t (n + 1) listed a w := by
  obtain ⟨fn, tmps, assign, body, hrun, hround⟩ := hy
  refine wpE_one hr hi hw ?_
  rw [he, hrun]
  refine ⟨fun h => by simp [Fence.wide] at h, hround.mono ?_⟩
  intro e w' hr'
  obtain ⟨v, rfl, h1, h2⟩ := h e w' hr'
  exact ⟨h1, h2⟩
theorem wpE_done {listed : Array Bool} {a : Act} {w : World} (hr : Region.ready md ops listed = []) (h : Q .normal a w) : wpE m P md ops Q S t 0 listed a w := ⟨hr, h⟩

theorem wp_region_e {id : Nat} {a : Act} {w : World} {l : List Oper} (m : Nat) (t : List Nat) (S : World → Prop) (hm : P.follows .mixedOrders = true) (hS : S w.drew)
    (h : S w.drew → wpE m P .any l.toArray Q S t l.length (Array.replicate l.length false) a w.drew) : (Code.region id l.toArray true).wp P Q a w := by
  refine (wpIn_wide (n := m)).1 (wpIn_region_any hm (wpE_any (t := t) (S := S) _ _ _ _ ?_))
  have := h hS
  simpa using this
end
end Go.Proofs.Ytceocpohdckkoaa.Hi
