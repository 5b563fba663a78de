/- Regions that draw their order, with effects: the worlds go through classes C 0, C 1, .. as the effects E are carried out; all else may float. -/
import Derived.Test.YtgmenlfhkhdbdaaHe
namespace Go.Proofs.Ytgmenlfhkhdbdaa.Fx
open He (desc)
set_option linter.unusedSimpArgs false
set_option linter.unusedVariables false

section
variable {P : Program} {ops : Array Oper} {md : Region.Mode} {C : Nat → World → Prop} {E : List Nat} {Q : Exit → Act → World → Prop}

/-- What an operation yields: v, and a world of the class. -/
def upon (P : Program) (C : World → Prop) (v : Value) : Result Next → Prop
  | .ok (.value u) w' => C w' ∧ u = v
  | .ok .skip w' => C w' ∧ v = undef
  | .ok (.enter f args) w' => Calls P f args w' (fun e w'' => e = .returned v ∧ C w'')
  | _ => False

/-- c waits for e, at once or through others. -/
inductive Waits (md : Region.Mode) (ops : Array Oper) (e : Nat) : Nat → Prop
  | refl : Waits md ops e e
  | step {c d : Nat} : Region.waitsFor md ops c d = true → Waits md ops e d → Waits md ops e c

theorem desc_waits {e : Nat} : ∀ c ∈ desc md ops e, Waits md ops e c := by
  unfold desc
  have key : ∀ (r l : List Nat), (∀ c ∈ l, Waits md ops e c) → ∀ c ∈ r.foldl (fun l c => if c == e || l.any (fun d => Region.waitsFor md ops c d) then c :: l else l) l, Waits md ops e c := by
    intro r
    induction r with
    | nil => intro l h; exact h
    | cons x r ih =>
      intro l h
      rw [List.foldl_cons]
      refine ih _ ?_
      split
      · rename_i hx
        intro c hc
        rcases List.mem_cons.1 hc with rfl | hc
        · simp only [Bool.or_eq_true, beq_iff_eq, List.any_eq_true] at hx
          rcases hx with rfl | ⟨d, hd, hw⟩
          · exact .refl
          · exact .step hw (h d hd)
        · exact h c hc
      · exact h
  exact key _ _ (by simp)

def Closed (md : Region.Mode) (ops : Array Oper) (listed : Array Bool) : Prop :=
  ∀ (j : Nat) (oj : Oper), ops[j]? = some oj → listed.getD j false = true → ∀ x ∈ oj.after, Region.binds md x = true → listed.getD x.on false = true

theorem Waits.listed {e c : Nat} {listed : Array Bool} (hc : Closed md ops listed) (h : Waits md ops e c) : listed.getD c false = true → listed.getD e false = true := by
  induction h with
  | refl => exact id
  | step hw _ ih =>
    intro hl
    obtain ⟨o', ho', x, hx, hb, hon⟩ := Region.waitsFor_spec hw
    exact ih (by rw [← hon]; exact hc _ _ ho' hl x hx hb)
theorem Waits.ready {e c : Nat} {listed : Array Bool} (hc : Closed md ops listed) (h : Waits md ops e c) (hr : c ∈ Region.ready md ops listed) (hne : e ≠ c) : listed.getD e false = true := by
  cases h with
  | refl => exact absurd rfl hne
  | step hw hd =>
    obtain ⟨_, oj, hoj, hall⟩ := mem_ready.1 hr
    obtain ⟨o', ho', x, hx, hb, hon⟩ := Region.waitsFor_spec hw
    have : o' = oj := Option.some.inj (ho'.symm.trans hoj)
    subst this
    exact hd.listed hc (by rw [← hon]; exact hall x hx hb)

def cnt (E : List Nat) (listed : Array Bool) : Nat := E.countP fun e => listed.getD e false
def lo (md : Region.Mode) (ops : Array Oper) (E : List Nat) (i : Nat) : Nat := E.countP fun e => e != i && (desc md ops e).contains i
def hi (md : Region.Mode) (ops : Array Oper) (E : List Nat) (i : Nat) : Nat := E.length - E.countP fun e => (desc md ops i).contains e
def nxt (E : List Nat) (i m : Nat) : Nat := if E.contains i then m + 1 else m

theorem unl {i : Nat} {listed : Array Bool} (h : listed.getD i true = false) : listed.getD i false = false ∧ i < listed.size := by
  rcases Nat.lt_or_ge i listed.size with h' | h'
  · refine ⟨?_, h'⟩; simp [h'] at h ⊢; exact h
  · simp [Array.getElem?_eq_none h'] at h
theorem lo_le {i : Nat} {listed : Array Bool} (hc : Closed md ops listed) (hr : i ∈ Region.ready md ops listed) : lo md ops E i ≤ cnt E listed := by
  unfold lo cnt
  refine List.countP_mono_left fun e he hp => ?_
  simp only [Bool.and_eq_true, bne_iff_ne, List.contains_iff_mem] at hp
  exact (desc_waits _ hp.2).ready hc hr hp.1
theorem le_hi {i : Nat} {listed : Array Bool} (hc : Closed md ops listed) (hr : i ∈ Region.ready md ops listed) : cnt E listed ≤ hi md ops E i := by
  unfold hi cnt
  have h1 := List.length_eq_countP_add_countP (fun e => (desc md ops i).contains e) (l := E)
  have h2 : E.countP (fun e => listed.getD e false) ≤ E.countP (fun a => decide ¬(desc md ops i).contains a = true) := by
    refine List.countP_mono_left fun e he hp => ?_
    rw [decide_eq_true_iff]
    intro hd
    have := (desc_waits _ (List.contains_iff_mem.1 hd)).listed hc hp
    rw [(unl (mem_ready.1 hr).1).1] at this
    cases this
  omega
theorem cnt_set {i : Nat} {listed : Array Bool} (hE : E.Nodup) (h0 : listed.getD i true = false) : cnt E (listed.setIfInBounds i true) = nxt E i (cnt E listed) := by
  obtain ⟨h1, h2⟩ := unl h0
  unfold cnt nxt
  induction E with
  | nil => rfl
  | cons e E ih =>
    rw [List.nodup_cons] at hE
    rw [List.countP_cons, List.countP_cons, ih hE.2]
    by_cases he : e = i
    · subst he
      have hn : E.contains e = false := by
        cases h : E.contains e
        · rfl
        · exact absurd (List.contains_iff_mem.1 h) hE.1
      have h3 : (listed.setIfInBounds e true).getD e false = true := by simp [h2]
      rw [h3, h1, hn]
      simp
    · have h3 : (listed.setIfInBounds i true).getD e false = listed.getD e false := getD_set_ne false (Ne.symm he)
      have h4 : (e :: E).contains i = E.contains i := by
        rw [List.contains_cons]; simp [Ne.symm he]
      rw [h3, h4]
      split <;> split <;> omega

/-- Number i, in every class where it may come up, yields v. -/
def Yat (P : Program) (md : Region.Mode) (ops : Array Oper) (C : Nat → World → Prop) (E : List Nat) (i : Nat) (o : Oper) (a : Act) (v : Value) : Prop :=
  ∀ m w, lo md ops E i ≤ m → m ≤ hi md ops E i → C m w → upon P (C (nxt E i m)) v ((execOp a.eval o).run P w)
def qF (P : Program) (md : Region.Mode) (ops : Array Oper) (C : Nat → World → Prop) (E : List Nat) (i : Nat) (K : Act → Prop) (a : Act) : Prop :=
  match ops[i]? with
  | none => K a
  | some o => if Region.wanted o (yielded ops a.tmps) then ∃ v, Yat P md ops C E i o a v ∧ K (a.put o.dst v) else E.contains i = false ∧ K (a.put o.dst undef)
theorem qF_mono {i : Nat} {a : Act} {K K' : Act → Prop} (h : ∀ a, K a → K' a) (hh : qF P md ops C E i K a) : qF P md ops C E i K' a := by
  unfold qF at *
  split
  · rename_i ho; simp only [ho] at hh; exact h _ hh
  · rename_i o ho
    simp only [ho] at hh
    split
    · rename_i hw; simp only [hw, if_true] at hh; obtain ⟨v, h1, h2⟩ := hh; exact ⟨v, h1, h _ h2⟩
    · rename_i hw; simp only [hw] at hh; exact ⟨hh.1, h _ hh.2⟩

/-- Whatever order is picked from here on. -/
def wpF (P : Program) (md : Region.Mode) (ops : Array Oper) (C : Nat → World → Prop) (E : List Nat) (Q : Exit → Act → World → Prop) : Nat → Array Bool → Act → Prop
  | 0, listed, a => Region.ready md ops listed = [] ∧ ∀ w, C (cnt E listed) w → Q .normal a w
  | n + 1, listed, a => (Region.ready md ops listed = [] → ∀ w, C (cnt E listed) w → Q .normal a w) ∧ ∀ i ∈ Region.ready md ops listed, qF P md ops C E i (wpF P md ops C E Q n (listed.setIfInBounds i true)) a

theorem wpF_any (hE : E.Nodup) : ∀ (n : Nat) (listed : Array Bool) (a : Act) (w : World), Closed md ops listed → C (cnt E listed) w → wpF P md ops C E Q n listed a → wpAny P md ops Q n listed a w
  | 0, _, _, _, _, hw, h => ⟨h.1, h.2 _ hw⟩
  | n + 1, listed, a, w, hc, hw, h => by
    refine ⟨fun h0 => h.1 h0 _ hw, fun i hi => ?_⟩
    have hq := h.2 i hi
    obtain ⟨hun, oi, hoi, hall⟩ := mem_ready.1 hi
    have hc' : Closed md ops (listed.setIfInBounds i true) := by
      intro j oj hj hl x hx hb
      have h1 : listed.getD x.on false = true := by
        by_cases hji : i = j
        · subst hji
          have : oj = oi := Option.some.inj (hj.symm.trans hoi)
          subst this
          exact hall x hx hb
        · rw [getD_set_ne false hji] at hl
          exact hc j oj hj hl x hx hb
      by_cases hxi : i = x.on
      · rw [← hxi]; simp [(unl hun).2]
      · rw [getD_set_ne false hxi]; exact h1
    have hcs := cnt_set (E := E) hE hun
    unfold qF at hq
    unfold wpOp
    simp only [hoi] at hq ⊢
    split
    · rename_i hwt
      simp only [hwt, if_true] at hq
      obtain ⟨v, hy, hK⟩ := hq
      have h3 := hy _ w (lo_le hc hi) (le_hi hc hi) hw
      refine .inl ?_
      unfold Oper.wp
      generalize (execOp a.eval oi).run P w = r at *
      cases r with
      | ok n' w' =>
        cases n' <;> simp only [upon] at h3 <;> simp only [Oper.upon]
        case value u =>
          obtain ⟨e1, e2⟩ := h3
          rw [e2]
          exact wpF_any hE n _ _ w' hc' (by rw [hcs]; exact e1) hK
        case skip =>
          obtain ⟨e1, e2⟩ := h3
          rw [← e2]
          exact wpF_any hE n _ _ w' hc' (by rw [hcs]; exact e1) hK
        case enter f args =>
          exact h3.mono fun e w'' ⟨he, hw''⟩ => by subst he; exact wpF_any hE n _ _ w'' hc' (by rw [hcs]; exact hw'') hK
      | halt x w' => simp only [upon] at h3
    · rename_i hwt
      simp only [hwt] at hq
      refine wpF_any hE n _ _ w hc' ?_ hq.2
      rw [hcs]; unfold nxt; rw [hq.1]; exact hw

def YF (P : Program) (md : Region.Mode) (ops : Array Oper) (C : Nat → World → Prop) (E : List Nat) (i : Nat) (o : Oper) (v : Value) (a : Act) : Prop :=
  (Region.wanted o (yielded ops a.tmps) = true ∧ Yat P md ops C E i o a v) ∨ (Region.wanted o (yielded ops a.tmps) = false ∧ v = undef ∧ E.contains i = false)

theorem YF.q {i : Nat} {o : Oper} {v : Value} {a : Act} (hi : ops[i]? = some o) (hy : YF P md ops C E i o v a) {K : Act → Prop} (h : K (a.put o.dst v)) : qF P md ops C E i K a := by
  unfold qF
  simp only [hi]
  rcases hy with ⟨hw, hv⟩ | ⟨hw, rfl, he⟩
  · simp only [hw, if_true]; exact ⟨v, hv, h⟩
  · simp only [hw, Bool.false_eq_true, if_false]; exact ⟨he, h⟩
theorem YF.of_same {i : Nat} {o : Oper} {v : Value} {a a' : Act} (hy : YF P md ops C E i o v a) (he : execOp a'.eval o = execOp a.eval o)
    (hw : Region.wanted o (yielded ops a'.tmps) = Region.wanted o (yielded ops a.tmps)) : YF P md ops C E i o v a' := by
  unfold YF Yat at *
  rw [he, hw]
  exact hy
theorem qF_put {i j : Nat} {oi oj : Oper} {v : Value} (hj : ops[j]? = some oj) (hap : oi.apart ops oj = true)
    (hsi : ∀ cs b, oi.op ≠ .select cs b) (hsj : ∀ cs b, oj.op ≠ .select cs b) {K : Act → Prop} {a : Act}
    (hy : YF P md ops C E i oi v a) (h : qF P md ops C E j K (a.put oi.dst v)) :
    qF P md ops C E j (fun a' => YF P md ops C E i oi v a' ∧ K (a'.put oi.dst v)) a := by
  obtain ⟨h1, h2, h3⟩ := Oper.apart_spec hap
  have keep : ∀ u, YF P md ops C E i oi v (a.put oj.dst u) := fun u => hy.of_same (execOp_put oi hsi a oj.dst u h3) (wanted_put oi a oj.dst u h3)
  unfold qF at *
  simp only [hj] at *
  rw [wanted_put oj a oi.dst v h1] at h
  split
  · rename_i hw
    simp only [hw, if_true] at h
    obtain ⟨u, hu, hn⟩ := h
    refine ⟨u, fun m w l1 l2 hw' => ?_, keep u, by rw [← Act.put_comm a v u h2]; exact hn⟩
    have := hu m w l1 l2 hw'
    rwa [execOp_put oj hsj a oi.dst v h1] at this
  · rename_i hw
    simp only [hw] at h
    exact ⟨h.1, keep _, by rw [← Act.put_comm a v undef h2]; exact h.2⟩

theorem wpF_first {i : Nat} {oi : Oper} {v : Value} (hi : ops[i]? = some oi) (hsel : ∀ (j : Nat) (o : Oper) cs b, ops[j]? = some o → o.op ≠ .select cs b) :
    ∀ (n : Nat) (listed : Array Bool) (a : Act), (∀ j oj, ops[j]? = some oj → j ≠ i → listed.getD j true = false → (∀ e ∈ oj.after, Region.binds md e = true → e.on ≠ i) → oi.apart ops oj = true) →
      i ∈ Region.ready md ops listed → YF P md ops C E i oi v a → wpF P md ops C E Q n (listed.setIfInBounds i true) (a.put oi.dst v) → wpF P md ops C E Q (n + 1) listed a := by
  intro n
  induction n with
  | zero =>
    intro listed a _ hr hy H
    refine ⟨fun h => (by rw [h] at hr; cases hr), fun j hj => ?_⟩
    by_cases e : j = i
    · subst e; exact hy.q hi H
    · have h := ready_mono hj e
      rw [H.1] at h
      cases h
  | succ n ih =>
    intro listed a hfree hr hy H
    refine ⟨fun h => (by rw [h] at hr; cases hr), fun j hj => ?_⟩
    by_cases e : j = i
    · subst e; exact hy.q hi H
    · have h1 := H.2 j (ready_mono hj e)
      obtain ⟨hjun, oj, hoj, hall⟩ := mem_ready.1 hj
      have hnot : ∀ x ∈ oj.after, Region.binds md x = true → x.on ≠ i := fun x hx hb heq => by
        have h2 := hall x hx hb
        rw [heq, (unl (mem_ready.1 hr).1).1] at h2
        cases h2
      have h2 := qF_put hoj (hfree j oj hoj e hjun hnot) (fun cs b => hsel i oi cs b hi) (fun cs b => hsel j oj cs b hoj) hy h1
      refine qF_mono (fun a' h3 => ih (listed.setIfInBounds j true) a' (fun k ok hk hki hun hno => ?_) (ready_mono hr (Ne.symm e)) h3.1 ?_) h2
      · refine hfree k ok hk hki ?_ hno
        by_cases f : j = k
        · subst f; exact hjun
        · rw [getD_set_ne true f] at hun; exact hun
      · rw [Array.setIfInBounds_comm _ _ e]
        exact h3.2

/-- Is number i to be taken now? -/
def mayB (md : Region.Mode) (ops : Array Oper) (listed : Array Bool) (i : Nat) : Bool := Region.noSelect ops && Region.free md ops listed i && (Region.ready md ops listed).contains i

theorem mayB_spec {i : Nat} {listed : Array Bool} (h : mayB md ops listed i = true) : Region.noSelect ops = true ∧ Region.free md ops listed i = true ∧ i ∈ Region.ready md ops listed := by
  unfold mayB at h
  simp only [Bool.and_eq_true, List.contains_iff_mem] at h
  exact ⟨h.1.1, h.1.2, h.2⟩

/-- A value, read where S holds. -/
theorem take {i : Nat} {oi : Oper} {v : Value} {n : Nat} {listed : Array Bool} {a : Act} (S : World → Prop) (hi : ops[i]? = some oi) (hm : mayB md ops listed i = true) (hn : E.contains i = false) (hw : Region.wanted oi (yielded ops a.tmps) = true)
    (hS : ∀ m w, C m w → S w) (hy : ∀ w, S w → (execOp a.eval oi).run P w = .ok (.value v) w)
    (h : wpF P md ops C E Q n (listed.setIfInBounds i true) (a.put oi.dst v)) : wpF P md ops C E Q (n + 1) listed a := by
  obtain ⟨h1, h2, h3⟩ := mayB_spec hm
  refine wpF_first hi (Region.noSelect_spec h1) n listed a (Region.free_spec hi h2) h3 (.inl ⟨hw, fun m w _ _ hC => ?_⟩) h
  rw [hy w (hS m w hC)]
  unfold nxt
  rw [hn]
  exact ⟨hC, rfl⟩
/-- A value, read where S holds, in classes l to r. -/
theorem take_at {i : Nat} {oi : Oper} {v : Value} {n : Nat} {listed : Array Bool} {a : Act} (l r : Nat) (S : World → Prop) (hi : ops[i]? = some oi) (hm : mayB md ops listed i = true) (hn : E.contains i = false) (hw : Region.wanted oi (yielded ops a.tmps) = true)
    (hl : lo md ops E i = l) (hr : Fx.hi md ops E i = r) (hS : ∀ m w, l ≤ m → m ≤ r → C m w → S w) (hy : ∀ w, S w → (execOp a.eval oi).run P w = .ok (.value v) w)
    (h : wpF P md ops C E Q n (listed.setIfInBounds i true) (a.put oi.dst v)) : wpF P md ops C E Q (n + 1) listed a := by
  obtain ⟨h1, h2, h3⟩ := mayB_spec hm
  refine wpF_first hi (Region.noSelect_spec h1) n listed a (Region.free_spec hi h2) h3 (.inl ⟨hw, fun m w b1 b2 hC => ?_⟩) h
  rw [hy w (hS m w (hl ▸ b1) (hr ▸ b2) hC)]
  unfold nxt
  rw [hn]
  exact ⟨hC, rfl⟩
/-- Nothing: the guard says no. -/
theorem skip {i : Nat} {oi : Oper} {n : Nat} {listed : Array Bool} {a : Act} (hi : ops[i]? = some oi) (hm : mayB md ops listed i = true) (hn : E.contains i = false) (hw : Region.wanted oi (yielded ops a.tmps) = false)
    (h : wpF P md ops C E Q n (listed.setIfInBounds i true) (a.put oi.dst undef)) : wpF P md ops C E Q (n + 1) listed a := by
  obtain ⟨h1, h2, h3⟩ := mayB_spec hm
  exact wpF_first hi (Region.noSelect_spec h1) n listed a (Region.free_spec hi h2) h3 (.inr ⟨hw, rfl, hn⟩) h
/-- A call that leaves each class as it is. -/
theorem call {i : Nat} {oi : Oper} {v : Value} {n : Nat} {listed : Array Bool} {a : Act} {f : FuncId} {args : Array Value} (hi : ops[i]? = some oi) (hm : mayB md ops listed i = true) (hn : E.contains i = false) (hw : Region.wanted oi (yielded ops a.tmps) = true)
    (hf : ∀ w, (execOp a.eval oi).run P w = .ok (.enter f args) w)
    (hy : ∀ m w, C m w → Calls P f args w fun e w' => e = .returned v ∧ C m w')
    (h : wpF P md ops C E Q n (listed.setIfInBounds i true) (a.put oi.dst v)) : wpF P md ops C E Q (n + 1) listed a := by
  obtain ⟨h1, h2, h3⟩ := mayB_spec hm
  refine wpF_first hi (Region.noSelect_spec h1) n listed a (Region.free_spec hi h2) h3 (.inl ⟨hw, fun m w _ _ hC => ?_⟩) h
  rw [hf w]
  unfold nxt
  rw [hn]
  exact hy m w hC
/-- A call that is an effect. -/
theorem eff {i : Nat} {oi : Oper} {v : Value} {n : Nat} {listed : Array Bool} {a : Act} {f : FuncId} {args : Array Value} (k : Nat) (hi : ops[i]? = some oi) (hm : mayB md ops listed i = true) (hn : E.contains i = true) (hw : Region.wanted oi (yielded ops a.tmps) = true)
    (hl : lo md ops E i = k) (hr : Fx.hi md ops E i = k) (hf : ∀ w, (execOp a.eval oi).run P w = .ok (.enter f args) w)
    (hy : ∀ w, C k w → Calls P f args w fun e w' => e = .returned v ∧ C (k + 1) w')
    (h : wpF P md ops C E Q n (listed.setIfInBounds i true) (a.put oi.dst v)) : wpF P md ops C E Q (n + 1) listed a := by
  obtain ⟨h1, h2, h3⟩ := mayB_spec hm
  refine wpF_first hi (Region.noSelect_spec h1) n listed a (Region.free_spec hi h2) h3 (.inl ⟨hw, fun m w b1 b2 hC => ?_⟩) h
  obtain rfl : m = k := by omega
  rw [hf w]
  unfold nxt
  rw [hn]
  exact hy w hC
/-- A store (or what else skips) that is an effect. -/
theorem put {i : Nat} {oi : Oper} {n : Nat} {listed : Array Bool} {a : Act} (k : Nat) (g : World → World) (hi : ops[i]? = some oi) (hm : mayB md ops listed i = true) (hn : E.contains i = true) (hw : Region.wanted oi (yielded ops a.tmps) = true)
    (hl : lo md ops E i = k) (hr : Fx.hi md ops E i = k) (hf : ∀ w, C k w → (execOp a.eval oi).run P w = .ok .skip (g w)) (hy : ∀ w, C k w → C (k + 1) (g w))
    (h : wpF P md ops C E Q n (listed.setIfInBounds i true) (a.put oi.dst undef)) : wpF P md ops C E Q (n + 1) listed a := by
  obtain ⟨h1, h2, h3⟩ := mayB_spec hm
  refine wpF_first hi (Region.noSelect_spec h1) n listed a (Region.free_spec hi h2) h3 (.inl ⟨hw, fun m w b1 b2 hC => ?_⟩) h
  obtain rfl : m = k := by omega
  rw [hf w hC]
  unfold nxt
  rw [hn]
  exact ⟨hy w hC, rfl⟩
/-- The same two, what is asked behind one another. -/
theorem call' {i : Nat} {oi : Oper} {n : Nat} {listed : Array Bool} {a : Act} (hi : ops[i]? = some oi) (hm : mayB md ops listed i = true) (hn : E.contains i = false) (hw : Region.wanted oi (yielded ops a.tmps) = true)
    (h : ∃ f args v, (∀ w, (execOp a.eval oi).run P w = .ok (.enter f args) w) ∧ (∀ m w, C m w → Calls P f args w fun e w' => e = .returned v ∧ C m w') ∧ wpF P md ops C E Q n (listed.setIfInBounds i true) (a.put oi.dst v)) : wpF P md ops C E Q (n + 1) listed a := by
  obtain ⟨f, args, v, h1, h2, h3⟩ := h
  exact call hi hm hn hw h1 h2 h3
theorem eff' {i : Nat} {oi : Oper} {n : Nat} {listed : Array Bool} {a : Act} (k : Nat) (hi : ops[i]? = some oi) (hm : mayB md ops listed i = true) (hn : E.contains i = true) (hw : Region.wanted oi (yielded ops a.tmps) = true)
    (hl : lo md ops E i = k) (hr : Fx.hi md ops E i = k)
    (h : ∃ f args v, (∀ w, (execOp a.eval oi).run P w = .ok (.enter f args) w) ∧ (∀ w, C k w → Calls P f args w fun e w' => e = .returned v ∧ C (k + 1) w') ∧ wpF P md ops C E Q n (listed.setIfInBounds i true) (a.put oi.dst v)) : wpF P md ops C E Q (n + 1) listed a := by
  obtain ⟨f, args, v, h1, h2, h3⟩ := h
  exact eff k hi hm hn hw hl hr h1 h2 h3
theorem done {listed : Array Bool} {a : Act} (k : Nat) (hr : Region.ready md ops listed = []) (hk : cnt E listed = k) (h : ∀ w, C k w → Q .normal a w) : wpF P md ops C E Q 0 listed a := ⟨hr, by rw [hk]; exact h⟩

theorem rep0 (n e : Nat) : (Array.replicate n false)[e]?.getD false = false := by
  rw [Array.getElem?_replicate]; split <;> rfl
theorem wp_region_f {id : Nat} {a : Act} {w : World} {l : List Oper} (E : List Nat) (C : Nat → World → Prop) (hm : P.follows .mixedOrders = true) (hE : E.Nodup) (hC : C 0 w.drew)
    (h : wpF P .any l.toArray C E Q l.length (Array.replicate l.length false) a) : (Code.region id l.toArray true).wp P Q a w := by
  refine wp_region_any hm ?_
  have h0 : cnt E (Array.replicate l.length false) = 0 := by
    unfold cnt
    rw [List.countP_eq_zero]
    intro e _
    simp [rep0]
  have h1 : Closed .any l.toArray (Array.replicate l.length false) := by
    intro j oj _ hl
    simp [rep0] at hl
  have h2 := wpF_any (Q := Q) (P := P) hE _ _ a w.drew h1 (by rw [h0]; exact hC) h
  simpa using h2
end
end Go.Proofs.Ytgmenlfhkhdbdaa.Fx
