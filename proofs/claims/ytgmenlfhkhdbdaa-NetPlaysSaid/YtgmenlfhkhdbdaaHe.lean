/- Regions that draw their order and end in one store: what the loads read need hold only till then. -/
import Derived.OrdersHeld
import Derived.StillTail
import Derived.Deep.RegionHeld
import Derived.WalkKit
namespace Go.Proofs.Ytgmenlfhkhdbdaa.He
set_option linter.unusedSimpArgs false
set_option linter.unusedVariables false

section
variable {P : Program} {ops : Array Oper} {Q : Exit → Act → World → Prop} {md : Region.Mode} {S : World → Prop} {t : Nat}

/-- Those that wait for i, one behind the other. -/
def desc (md : Region.Mode) (ops : Array Oper) (i : Nat) : List Nat :=
  (List.range ops.size).foldl (fun l c => if c == i || l.any (fun d => Region.waitsFor md ops c d) then c :: l else l) []
/-- The last one waits for i. -/
def waitsB (md : Region.Mode) (ops : Array Oper) (t i : Nat) (l : List Nat) : Bool := l.contains t && l.all fun c => c == i || l.any fun d => Region.waitsFor md ops c d
def openB (listed : Array Bool) (l : List Nat) : Bool := l.all fun c => !(listed.getD c true)

/-- Whatever order is picked from here on; behind each operation but number t S holds. -/
def wpE (P : Program) (md : Region.Mode) (ops : Array Oper) (Q : Exit → Act → World → Prop) (S : World → Prop) (t : Nat) : Nat → Array Bool → Act → World → Prop
  | 0, listed, a, w => Region.ready md ops listed = [] ∧ Q .normal a w
  | n + 1, listed, a, w => (Region.ready md ops listed = [] → Q .normal a w) ∧ ∀ i ∈ Region.ready md ops listed, wpOp P ops Q i (fun a' w' => (i ≠ t → S w') ∧ wpE P md ops Q S t n (listed.setIfInBounds i true) a' w') a w

theorem wpE_any : ∀ (n : Nat) (listed : Array Bool) (a : Act) (w : World), wpE P md ops Q S t n listed a w → wpAny P md ops Q n listed a w
  | 0, _, _, _, h => h
  | n + 1, _, _, _, h => ⟨h.1, fun i hi => wpOp_mono (fun a' w' h' => wpE_any n _ a' w' h'.2) (h.2 i hi)⟩

theorem unlisted_of {i : Nat} {listed : Array Bool} (h0 : listed.getD i true = false) (h1 : listed.getD i false = true) : False := by
  rcases Nat.lt_or_ge i listed.size with h | h
  · simp [h] at h0 h1; rw [h0] at h1; cases h1
  · simp [Array.getElem?_eq_none h] at h1

theorem open_step {i j : Nat} {l : List Nat} {listed : Array Bool} (hW : waitsB md ops t i l = true) (hO : openB listed l = true) (hj : j ∈ Region.ready md ops listed) (hji : j ≠ i) : j ≠ t ∧ openB (listed.setIfInBounds j true) l = true := by
  obtain ⟨hjun, oj, hoj, hall⟩ := mem_ready.1 hj
  simp only [waitsB, Bool.and_eq_true, List.all_eq_true, Bool.or_eq_true, beq_iff_eq, List.any_eq_true, List.contains_iff_mem] at hW
  simp only [openB, List.all_eq_true, Bool.not_eq_true'] at hO
  have hnot : j ∉ l := by
    intro hm
    rcases hW.2 j hm with h | ⟨d, hd, hw⟩
    · exact hji h
    · obtain ⟨o', ho', e, he, hb, hon⟩ := Region.waitsFor_spec hw
      have : o' = oj := Option.some.inj (ho'.symm.trans hoj)
      subst this
      have h2 := hall e he hb
      rw [hon] at h2
      exact unlisted_of (hO d hd) h2
  refine ⟨fun h => hnot (h ▸ hW.1), ?_⟩
  simp only [openB, List.all_eq_true, Bool.not_eq_true']
  intro c hc
  have hne : j ≠ c := by rintro rfl; exact hnot hc
  rw [getD_set_ne true hne]
  exact hO c hc

theorem wpE_first {i : Nat} {oi : Oper} {v : Value} {l : List Nat} (hi : ops[i]? = some oi) (hsel : ∀ (j : Nat) (o : Oper) cs b, ops[j]? = some o → o.op ≠ .select cs b) (hQ : ∀ c a w, Q (.panic c) (a.put oi.dst v) w → Q (.panic c) a w) (hW : waitsB md ops t i l = true) :
    ∀ (n : Nat) (listed : Array Bool) (a : Act) (w : World), openB listed l = true → (∀ j oj, ops[j]? = some oj → j ≠ i → listed.getD j true = false → (∀ e ∈ oj.after, Region.binds md e = true → e.on ≠ i) → oi.apart ops oj = true) →
      i ∈ Region.ready md ops listed → YieldsIf P ops S oi v a → S w → wpE P md ops Q S t n (listed.setIfInBounds i true) (a.put oi.dst v) w → wpE P md ops Q S t (n + 1) listed a w := by
  intro n
  induction n with
  | zero =>
    intro listed a w _ _ hr hy hS H
    refine ⟨fun h => (by rw [h] at hr; cases hr), fun j hj => ?_⟩
    by_cases e : j = i
    · subst e; exact hy.wpOp hi hS ⟨fun _ => hS, H⟩
    · have h := ready_mono hj e
      rw [H.1] at h
      cases h
  | succ n ih =>
    intro listed a w hO hfree hr hy hS H
    refine ⟨fun h => (by rw [h] at hr; cases hr), fun j hj => ?_⟩
    by_cases e : j = i
    · subst e; exact hy.wpOp hi hS ⟨fun _ => hS, H⟩
    · have h1 := H.2 j (ready_mono hj e)
      obtain ⟨hjt, hO'⟩ := open_step hW hO hj e
      obtain ⟨hjun, oj, hoj, hall⟩ := mem_ready.1 hj
      have hnot : ∀ x ∈ oj.after, Region.binds md x = true → x.on ≠ i := fun x hx hb heq => by
        have h2 := hall x hx hb
        rw [heq] at h2
        exact unlisted_of (mem_ready.1 hr).1 h2
      have h2 := wpOp_putIf hoj (hfree j oj hoj e hjun hnot) (fun cs b => hsel i oi cs b hi) (fun cs b => hsel j oj cs b hoj) hQ hy h1
      refine wpOp_mono (fun a' w' h3 => ⟨fun _ => h3.2.1 hjt, ih (listed.setIfInBounds j true) a' w' hO' (fun k ok hk hki hun hno => ?_) (ready_mono hr (Ne.symm e)) h3.1 (h3.2.1 hjt) ?_⟩) h2
      · refine hfree k ok hk hki ?_ hno
        by_cases f : j = k
        · subst f; exact hjun
        · rw [getD_set_ne true f] at hun; exact hun
      · rw [Array.setIfInBounds_comm _ _ e]
        exact h3.2.2

/-- Number i is taken first. -/
theorem wpE_take {i : Nat} {oi : Oper} {v : Value} {n : Nat} {listed : Array Bool} {a : Act} {w : World} (hi : ops[i]? = some oi)
    (hs : Region.noSelect ops = true) (hf : Region.free md ops listed i = true) (hr : (Region.ready md ops listed).contains i = true) (hW : waitsB md ops t i (desc md ops i) = true) (hO : openB listed (desc md ops i) = true)
    (hQ : ∀ c a w, Q (.panic c) (a.put oi.dst v) w → Q (.panic c) a w) (hw : Region.wanted oi (yielded ops a.tmps) = true) (hy : ∀ w, S w → (execOp a.eval oi).run P w = .ok (.value v) w) (hS : S w)
    (h : wpE P md ops Q S t n (listed.setIfInBounds i true) (a.put oi.dst v) w) : wpE P md ops Q S t (n + 1) listed a w :=
  wpE_first hi (Region.noSelect_spec hs) hQ hW n listed a w hO (Region.free_spec hi hf) (by simpa using hr) (.inl ⟨hw, hy⟩) hS h

/-- Number i alone may come up: it is carried out. -/
theorem wpE_one {i : Nat} {oi : Oper} {n : Nat} {listed : Array Bool} {a : Act} {w : World} (hr : Region.ready md ops listed = [i]) (hi : ops[i]? = some oi) (hw : Region.wanted oi (yielded ops a.tmps) = true)
    (h : ∀ K : Act → World → Prop, Shut (∀ a' w', (i ≠ t → S w') → wpE P md ops Q S t n (listed.setIfInBounds i true) a' w' → K a' w') → oi.wp P a w K Q) : wpE P md ops Q S t (n + 1) listed a w := by
  refine ⟨fun h0 => (by rw [h0] at hr; cases hr), fun j hj => ?_⟩
  rw [hr] at hj
  obtain rfl : j = i := by simpa using hj
  unfold wpOp
  rw [hi]
  simp only [hw, if_true]
  exact .inl (h _ (fun a' w' h1 h2 => ⟨h1, h2⟩))
/-- Two may come up. -/
theorem wpE_two {i j : Nat} {oi oj : Oper} {n : Nat} {listed : Array Bool} {a : Act} {w : World} (hr : Region.ready md ops listed = [i, j]) (hi : ops[i]? = some oi) (hj : ops[j]? = some oj) (hwi : Region.wanted oi (yielded ops a.tmps) = true) (hwj : Region.wanted oj (yielded ops a.tmps) = true)
    (h1 : ∀ K : Act → World → Prop, Shut (∀ a' w', (i ≠ t → S w') → wpE P md ops Q S t n (listed.setIfInBounds i true) a' w' → K a' w') → oi.wp P a w K Q)
    (h2 : ∀ K : Act → World → Prop, Shut (∀ a' w', (j ≠ t → S w') → wpE P md ops Q S t n (listed.setIfInBounds j true) a' w' → K a' w') → oj.wp P a w K Q) : wpE P md ops Q S t (n + 1) listed a w := by
  refine ⟨fun h0 => (by rw [h0] at hr; cases hr), fun k hk => ?_⟩
  rw [hr] at hk
  rcases List.mem_cons.1 hk with rfl | hk
  · unfold wpOp
    rw [hi]
    simp only [hwi, if_true]
    exact .inl (h1 _ (fun a' w' h1 h2 => ⟨h1, h2⟩))
  · obtain rfl : k = j := by simpa using hk
    unfold wpOp
    rw [hj]
    simp only [hwj, if_true]
    exact .inl (h2 _ (fun a' w' h1 h2 => ⟨h1, h2⟩))
theorem wpE_done {listed : Array Bool} {a : Act} {w : World} (hr : Region.ready md ops listed = []) (h : Q .normal a w) : wpE P md ops Q S t 0 listed a w := ⟨hr, h⟩

theorem wp_region_e {id : Nat} {a : Act} {w : World} {l : List Oper} (t : Nat) (S : World → Prop) (hm : P.follows .mixedOrders = true) (hS : S w.drew)
    (h : S w.drew → wpE P .any l.toArray Q S t l.length (Array.replicate l.length false) a w.drew) : (Code.region id l.toArray true).wp P Q a w := by
  refine wp_region_any hm (wpE_any (t := t) (S := S) _ _ _ _ ?_)
  have := h hS
  simpa using this
end
end Go.Proofs.Ytgmenlfhkhdbdaa.He
