/- Tables of sessions: plain facts. -/
import Derived.Test.YtcbafomhifdgpaaSs6
import Derived.Test.YtcbafomhifdgpaaKd9
namespace Go.Proofs.Ytcbafomhifdgpaa.Ss
open Go.RowKit Mem Si Bits
open Ke (numI numI_size AtS strCells_app)
set_option linter.unusedSimpArgs false
set_option linter.unusedVariables false

/-! What the texts say. -/
theorem num_cancel {a b : Int} {r s : ByteArray} (ha : 0 ≤ a ∧ a ≤ 9223372036854775807) (hb : 0 ≤ b ∧ b ≤ 9223372036854775807) (h : numI a ++ r = numI b ++ s) : a = b ∧ r = s := by
  have h1 := Ke.int_nx a ha.1 ha.2 r
  have h2 := Ke.int_nx b hb.1 hb.2 s
  rw [h] at h1
  have e1 := h1.1.symm.trans h2.1
  have e2 := h1.2.symm.trans h2.2
  exact ⟨by omega, (Prod.mk.inj e2).1⟩
theorem txtK_cat (l : List Sn) : ∀ (m : List Sn) (s : ByteArray), m.foldl (fun s x => s ++ rowT x) s = s ++ Ke.cat (m.map rowT) := by
  intro m
  induction m with
  | nil => intro s; show s = s ++ ⟨#[]⟩; rw [Ke.app_nil]
  | cons x m ih => intro s; rw [List.foldl_cons, ih]; show s ++ rowT x ++ Ke.cat (m.map rowT) = s ++ (rowT x ++ Ke.cat (m.map rowT)); rw [ByteArray.append_assoc]
theorem txt_cat (l : List Sn) : txt l = numI l.length ++ Ke.cat (l.map rowT) := by
  unfold txt txtK
  rw [List.take_length, txtK_cat l]
theorem cat_inj : ∀ (l m : List Sn), SB l → SB m → l.length = m.length → Ke.cat (l.map rowT) = Ke.cat (m.map rowT) → l = m
  | [], [], _, _, _, _ => rfl
  | [], _ :: _, _, _, h, _ => by simp at h
  | _ :: _, [], _, _, h, _ => by simp at h
  | x :: l, y :: m, hl, hm, hn, h => by
    have hx := hl x (by simp)
    have hy := hm y (by simp)
    have h : rowT x ++ Ke.cat (l.map rowT) = rowT y ++ Ke.cat (m.map rowT) := h
    unfold rowT at h
    rw [ByteArray.append_assoc, ByteArray.append_assoc] at h
    obtain ⟨e1, h⟩ := num_cancel ⟨hx.1.1, by omega⟩ ⟨hy.1.1, by omega⟩ h
    obtain ⟨e2, h⟩ := num_cancel ⟨hx.2.1, by omega⟩ ⟨hy.2.1, by omega⟩ h
    have := cat_inj l m (fun s hs => hl s (by simp [hs])) (fun s hs => hm s (by simp [hs])) (by simpa using hn) h
    rw [this, show x = y from Prod.ext e1 e2]
theorem txt_inj {l m : List Sn} (hl : SB l) (hm : SB m) (h1 : l.length ≤ 1000) (h2 : m.length ≤ 1000) (h : txt l = txt m) : l = m := by
  rw [txt_cat, txt_cat] at h
  obtain ⟨e1, h⟩ := num_cancel ⟨by omega, by omega⟩ ⟨by omega, by omega⟩ h
  exact cat_inj l m hl hm (by omega) h

/-! Tables stay good. -/
structure Good (l : List Sn) : Prop where
  up : Up l
  len : l.length ≤ 32
  rg : ∀ s ∈ l, (1 ≤ s.1 ∧ s.1 ≤ 549755813888) ∧ (0 ≤ s.2 ∧ s.2 ≤ 549755813888)
theorem Good.sb {l : List Sn} (h : Good l) : SB l := fun s hs => ⟨⟨by have := (h.rg s hs).1; omega, (h.rg s hs).1.2⟩, (h.rg s hs).2⟩
theorem Good.nil : Good [] := ⟨fun i j hi => by simp at hi, by simp, by simp⟩
theorem up_pair {l : List Sn} : Up l ↔ l.Pairwise (fun a b => a.1 < b.1) := by
  rw [List.pairwise_iff_getElem]
  exact ⟨fun h i j hi hj hij => h i j hi hj hij, fun h i j hi hj hij => h i j hi hj hij⟩
theorem pos_lt {l : List Sn} (hu : Up l) (id : Int) : (∀ s ∈ l.take (pos l id), s.1 < id) ∧ (∀ s ∈ l.drop (pos l id), id ≤ s.1) := by
  induction l with
  | nil => simp
  | cons a l ih =>
    have hp := up_pair.1 hu
    rw [List.pairwise_cons] at hp
    have ih := ih (up_pair.2 hp.2)
    by_cases h : a.1 < id
    · have e : pos (a :: l) id = pos l id + 1 := by unfold pos; rw [List.countP_cons_of_pos (by simpa using h)]
      rw [e, List.take_succ_cons, List.drop_succ_cons]
      refine ⟨fun s hs => ?_, ih.2⟩
      rcases List.mem_cons.1 hs with rfl | hs
      · exact h
      · exact ih.1 s hs
    · have e : pos (a :: l) id = 0 := by
        unfold pos
        rw [List.countP_eq_zero]
        intro s hs
        rcases List.mem_cons.1 hs with rfl | hs
        · simpa using h
        · have := hp.1 s hs
          simp; omega
      rw [e, List.take_zero, List.drop_zero]
      refine ⟨by simp, fun s hs => ?_⟩
      rcases List.mem_cons.1 hs with rfl | hs
      · omega
      · have := hp.1 s hs; omega
theorem has_not {l : List Sn} {id : Int} (h : has l id = false) : ∀ s ∈ l, s.1 ≠ id := by
  unfold has at h
  rw [List.any_eq_false] at h
  intro s hs
  simpa using h s hs
theorem up_ins {l : List Sn} {s : Sn} (hu : Up l) (h : has l s.1 = false) : Up (insL l s) := by
  have hp := up_pair.1 hu
  obtain ⟨h1, h2⟩ := pos_lt hu s.1
  have hn := has_not h
  have hall : l.take (pos l s.1) ++ l.drop (pos l s.1) = l := List.take_append_drop _ _
  rw [← hall, List.pairwise_append] at hp
  obtain ⟨p1, p2, p3⟩ := hp
  refine up_pair.2 ?_
  unfold insL
  rw [List.append_assoc, List.pairwise_append]
  refine ⟨p1, ?_, ?_⟩
  · show (s :: l.drop (pos l s.1)).Pairwise _
    rw [List.pairwise_cons]
    refine ⟨fun b hb => ?_, p2⟩
    have := h2 b hb
    have := hn b (List.mem_of_mem_drop hb)
    omega
  · intro a ha b hb
    rcases List.mem_cons.1 hb with rfl | hb
    · exact h1 a ha
    · exact p3 a ha b hb
theorem mem_ins {l : List Sn} {s x : Sn} (h : x ∈ insL l s) : x = s ∨ x ∈ l := by
  unfold insL at h
  rw [List.mem_append, List.mem_append] at h
  rcases h with (h | h) | h
  · exact .inr (List.mem_of_mem_take h)
  · exact .inl (by simpa using h)
  · exact .inr (List.mem_of_mem_drop h)
theorem good_open {l : List Sn} (h : Good l) (id : Int) : Good (openL l id).1 := by
  unfold openL
  by_cases hb : numB id = false
  · rw [if_pos hb]; exact h
  · rw [if_neg hb]
    by_cases hh : has l id = true
    · rw [if_pos hh]; exact h
    · rw [if_neg hh]
      by_cases h32 : 32 ≤ l.length
      · rw [if_pos h32]; exact h
      · rw [if_neg h32]
        have hb' : 1 ≤ id ∧ id ≤ 549755813888 := of_decide_eq_true (by simpa [numB] using hb)
        refine ⟨up_ins h.up (by simpa using hh), by rw [insL_len]; omega, fun s hs => ?_⟩
        rcases mem_ins hs with rfl | hs
        · exact ⟨hb', ⟨Int.le_refl 0, by show (0 : Int) ≤ 549755813888; omega⟩⟩
        · exact h.rg s hs
theorem up_set {l : List Sn} (hu : Up l) (i : Nat) (hi : i < l.length) (s : Sn) (h : s.1 = l[i].1) : Up (l.set i s) := by
  intro a b ha hb hab
  rw [List.length_set] at ha hb
  have := hu a b ha hb hab
  rw [List.getElem_set, List.getElem_set]
  split <;> split <;> (try subst_vars) <;> (try omega)
theorem good_take {l : List Sn} (h : Good l) (id seq : Int) : Good (takeL l id seq) := by
  unfold takeL
  by_cases hm : (mayL l id seq).1 = true
  · rw [if_pos hm]
    have hh : has l id = true := by
      cases hh : has l id with
      | false => unfold mayL at hm; rw [hh, if_pos rfl] at hm; cases hm
      | true => rfl
    have hb : numB seq = true := by
      cases hb : numB seq with
      | false => unfold mayL at hm; rw [hh, hb, if_neg (by simp), if_pos rfl] at hm; cases hm
      | true => rfl
    have hb' : 1 ≤ seq ∧ seq ≤ 549755813888 := of_decide_eq_true (by simpa [numB] using hb)
    obtain ⟨hp, he⟩ := has_pos h.up hh
    refine ⟨up_set h.up _ hp _ he.symm, by rw [List.length_set]; exact h.len, fun s hs => ?_⟩
    rcases List.mem_or_eq_of_mem_set hs with hs | rfl
    · exact h.rg s hs
    · have := (h.rg _ (List.getElem_mem hp)).1
      exact ⟨by rw [he] at this; exact this, by omega, hb'.2⟩
  · rw [if_neg hm]; exact h
end Go.Proofs.Ytcbafomhifdgpaa.Ss
