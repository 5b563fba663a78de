/- An agenda as a list in the order: plain. -/
import Derived.Test.YtgmenlfhkhdbdaaAg1
namespace Go.Proofs.Ytgmenlfhkhdbdaa.Ag
set_option linter.unusedSimpArgs false
set_option linter.unusedVariables false

/-- Items in their order, no ID twice, none above the last. -/
structure Ok (S : List It) (last : Int) : Prop where
  srt : S.Pairwise (fun a b => soon a b = true)
  ids : S.Pairwise (fun a b => a.2.1 ≠ b.2.1)
  rg : ∀ s ∈ S, 1 ≤ s.2.1 ∧ s.2.1 ≤ last
theorem Ok.nil (last : Int) : Ok [] last := ⟨List.Pairwise.nil, List.Pairwise.nil, by simp⟩
theorem Ok.mono {S : List It} {last last' : Int} (h : Ok S last) (hl : last ≤ last') : Ok S last' := ⟨h.srt, h.ids, fun s hs => by have := h.rg s hs; omega⟩
theorem Ok.sub {S T : List It} {last : Int} (h : Ok S last) (hs : T.Sublist S) : Ok T last := ⟨h.srt.sublist hs, h.ids.sublist hs, fun s hm => h.rg s (hs.subset hm)⟩
/-- A new item goes behind those that are sooner. -/
def insI (S : List It) (x : It) : List It := S.takeWhile (fun s => soon s x) ++ x :: S.dropWhile (fun s => soon s x)
theorem ins_perm (S : List It) (x : It) : (insI S x).Perm (S ++ [x]) := by
  unfold insI
  conv => rhs; rw [← List.takeWhile_append_dropWhile (p := fun s => soon s x) (l := S)]
  rw [List.append_assoc]
  refine List.Perm.append_left _ ?_
  exact (List.perm_append_comm (l₁ := [x]))
theorem ins_len (S : List It) (x : It) : (insI S x).length = S.length + 1 := by rw [(ins_perm S x).length_eq]; simp
theorem ins_mem {S : List It} {x y : It} : y ∈ insI S x ↔ y ∈ S ∨ y = x := by rw [(ins_perm S x).mem_iff]; simp
theorem mem_takeWhile {p : It → Bool} : ∀ {S : List It} {s : It}, s ∈ S.takeWhile p → p s = true
  | a :: S, s, h => by
    rw [List.takeWhile_cons] at h
    split at h
    · rename_i ha
      rcases List.mem_cons.1 h with rfl | h
      · exact ha
      · exact mem_takeWhile h
    · simp at h
theorem soon_trans {a b c : It} (h1 : soon a b = true) (h2 : soon b c = true) : soon a c = true := by rw [soon_iff] at *; omega
theorem soon_total {a b : It} (h : a.2.1 ≠ b.2.1) (hn : soon a b = false) : soon b a = true := by
  have : ¬ (a.1 < b.1 ∨ a.1 = b.1 ∧ a.2.1 < b.2.1) := by rw [← soon_iff, hn]; simp
  rw [soon_iff]; omega
theorem ok_ins {S : List It} {last : Int} {x : It} (h : Ok S last) (hx : x.2.1 = last + 1) (h0 : 0 ≤ last) : Ok (insI S x) (last + 1) := by
  have hne : ∀ s ∈ S, s.2.1 ≠ x.2.1 := fun s hs => by have := h.rg s hs; omega
  have hall : S.takeWhile (fun s => soon s x) ++ S.dropWhile (fun s => soon s x) = S := List.takeWhile_append_dropWhile
  refine ⟨?_, ?_, ?_⟩
  · have hs := h.srt
    rw [← hall, List.pairwise_append] at hs
    obtain ⟨p1, p2, p3⟩ := hs
    unfold insI
    rw [List.pairwise_append, List.pairwise_cons]
    have hdw : ∀ b ∈ S.dropWhile (fun s => soon s x), soon x b = true := by
      intro b hb
      cases hd : S.dropWhile (fun s => soon s x) with
      | nil => rw [hd] at hb; simp at hb
      | cons d r =>
        have hd0 : soon d x = false := by
          have := List.head?_dropWhile_not (fun s => soon s x) S
          rw [hd] at this
          simpa using this
        have hdm : d ∈ S := by
          have : d ∈ S.dropWhile (fun s => soon s x) := by rw [hd]; simp
          exact (List.dropWhile_sublist _).subset this
        have hxd := soon_total (hne d hdm) hd0
        rw [hd] at hb p2
        rw [List.pairwise_cons] at p2
        rcases List.mem_cons.1 hb with rfl | hb
        · exact hxd
        · exact soon_trans hxd (p2.1 b hb)
    refine ⟨p1, ⟨hdw, p2⟩, fun a ha b hb => ?_⟩
    rcases List.mem_cons.1 hb with rfl | hb
    · exact mem_takeWhile (p := fun s => soon s _) ha
    · exact p3 a ha b hb
  · rw [(ins_perm S x).pairwise_iff (fun h e => h e.symm), List.pairwise_append]
    exact ⟨h.ids, List.pairwise_singleton _ _, fun a ha b hb => by
      obtain rfl : b = x := (by simpa using hb)
      exact hne a ha⟩
  · intro s hs
    rcases ins_mem.1 hs with hs | rfl
    · have := h.rg s hs; omega
    · omega
/-- The heap's first is the list's. -/
theorem first_eq {h S : List It} {s : It} {last : Int} (hh : IsHeap h h.length) (hp : h.Perm (s :: S)) (hs : Ok (s :: S) last) : gt h 0 = s := by
  have hl : 0 < h.length := by rw [hp.length_eq]; simp
  have hm : gt h 0 ∈ s :: S := by rw [← hp.mem_iff, gt_eq hl]; exact List.getElem_mem _
  have hsm : s ∈ h := by rw [hp.mem_iff]; simp
  obtain ⟨k, hk, hks⟩ := List.getElem_of_mem hsm
  have hle := heap_first hh k hk
  rw [gt_eq hk, hks] at hle
  rcases List.mem_cons.1 hm with e | hm
  · exact e
  · have := hs.srt
    rw [List.pairwise_cons] at this
    have := this.1 _ hm
    rw [hle] at this
    cases this
theorem rest_perm {h h' S : List It} {s x : It} (hp : h.Perm (s :: S)) (hx : x = s) (hq : (x :: h').Perm h) : h'.Perm S := by
  subst hx
  exact List.Perm.cons_inv (hq.trans hp)
/-- What is left without an ID. -/
def woI (S : List It) (id : Int) : List It := S.filter (fun s => s.2.1 != id)
theorem wo_perm {h' S : List It} {x : It} {last : Int} (hs : Ok S last) (hq : (x :: h').Perm S) : h'.Perm (woI S x.2.1) := by
  have hd := (hq.pairwise_iff (R := fun a b : It => a.2.1 ≠ b.2.1) (fun h e => h e.symm)).2 hs.ids
  rw [List.pairwise_cons] at hd
  have hf := hq.filter (fun s : It => s.2.1 != x.2.1)
  rw [List.filter_cons, if_neg (by simp), List.filter_eq_self.2 (fun y hy => by have := hd.1 y hy; simpa using fun e => this e.symm)] at hf
  exact hf
theorem ok_wo {S : List It} {last : Int} (h : Ok S last) (id : Int) : Ok (woI S id) last := h.sub List.filter_sublist
def hasI (S : List It) (id : Int) : Bool := S.any (fun s => s.2.1 == id)
theorem hasI_iff {S : List It} {id : Int} : hasI S id = true ↔ ∃ s ∈ S, s.2.1 = id := by unfold hasI; rw [List.any_eq_true]; simp
theorem wo_not {S : List It} {id : Int} (h : hasI S id = false) : woI S id = S := by
  unfold woI
  rw [List.filter_eq_self]
  unfold hasI at h
  rw [List.any_eq_false] at h
  intro s hs
  have := h s hs
  simpa using this
/-- What is due, and what is left. -/
def dueI (S : List It) (now : Int) : List It := S.takeWhile (fun s => decide (s.1 ≤ now))
def leftI (S : List It) (now : Int) : List It := S.dropWhile (fun s => decide (s.1 ≤ now))
theorem ok_left {S : List It} {last : Int} (h : Ok S last) (now : Int) : Ok (leftI S now) last := h.sub (List.dropWhile_sublist _)
/-- Of a list in the order just those are due whose time it is. -/
theorem due_filter {S : List It} {last : Int} (h : Ok S last) (now : Int) : dueI S now = S.filter (fun s => decide (s.1 ≤ now)) := by
  have hs := h.srt
  clear h
  unfold dueI
  induction S with
  | nil => rfl
  | cons a S ih =>
    rw [List.pairwise_cons] at hs
    rw [List.takeWhile_cons, List.filter_cons]
    by_cases ha : a.1 ≤ now
    · rw [if_pos (by simpa using ha), if_pos (by simpa using ha), ih hs.2]
    · rw [if_neg (by simpa using ha), if_neg (by simpa using ha)]
      symm
      rw [List.filter_eq_nil_iff]
      intro b hb
      have := soon_iff.1 (hs.1 b hb)
      simp; omega
theorem left_filter {S : List It} {last : Int} (h : Ok S last) (now : Int) : leftI S now = S.filter (fun s => decide (now < s.1)) := by
  have hs := h.srt
  clear h
  unfold leftI
  induction S with
  | nil => rfl
  | cons a S ih =>
    rw [List.pairwise_cons] at hs
    rw [List.dropWhile_cons, List.filter_cons]
    by_cases ha : a.1 ≤ now
    · rw [if_pos (by simpa using ha), if_neg (by simp; omega), ih hs.2]
    · rw [if_neg (by simpa using ha), if_pos (by simp; omega)]
      symm
      congr 1
      rw [List.filter_eq_self]
      intro b hb
      have := soon_iff.1 (hs.1 b hb)
      simp; omega
end Go.Proofs.Ytgmenlfhkhdbdaa.Ag
