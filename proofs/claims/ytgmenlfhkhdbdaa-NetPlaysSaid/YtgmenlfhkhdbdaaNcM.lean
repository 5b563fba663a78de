/- Several texts in one. -/
import Derived.Test.YtgmenlfhkhdbdaaRcM
import Derived.Test.YtgmenlfhkhdbdaaNt7
import Derived.Test.YtgmenlfhkhdbdaaAnK
import Derived.Test.YtgmenlfhkhdbdaaNt5
import Derived.Test.YtgmenlfhkhdbdaaRd
import Derived.Deep.DeepCutAuto
import Derived.WalkKit
import Derived.Laws.Rows
section
/- NetPlays, plain: what a net and the reference's list have in common. -/
namespace Go.Proofs.Ytgmenlfhkhdbdaa.Nt
open Go.RowKit Mem _root_.Go.Proofs.Ytgmenlfhkhdbdaa.Nm Ra
open Ag (It AgW AgT Keep insI woI dueI leftI hasI AddP ItAt soon)
set_option linter.unusedSimpArgs false
set_option linter.unusedVariables false
set_option maxRecDepth 100000

def itR (x : Ri) : It := (x.at_, x.id, 0)
structure RelP (last : Int) (S : List It) (M : Int → Option Ms) (C : Nat → Nat → Bool) (xs : List Ri) (cl : List (Int × Int)) : Prop where
  perm : S.Perm (xs.map itR)
  ms : ∀ x ∈ xs, M x.id = some x.m
  ids : xs.Pairwise (fun a b => a.id < b.id)
  rg : ∀ x ∈ xs, x.id ≤ last
  cut : ∀ a b : Nat, a < 7 → b < 7 → C a b = offL cl a b
  es : ∀ x ∈ xs, x.m.es.length ≤ 20
section
variable {last : Int} {S : List It} {M : Int → Option Ms} {C : Nat → Nat → Bool} {xs : List Ri} {cl : List (Int × Int)}
theorem RelP.nil : RelP 0 [] (fun _ => none) (fun _ _ => false) [] [] := ⟨List.Perm.refl _, by simp, List.Pairwise.nil, by simp, fun a b _ _ => rfl, by simp⟩
theorem RelP.len (h : RelP last S M C xs cl) : S.length = xs.length := by rw [h.perm.length_eq, List.length_map]
theorem check_ends {m : Ms} (h : checkB m = true) : (0 ≤ m.frm ∧ m.frm ≤ 6) ∧ (0 ≤ m.dst ∧ m.dst ≤ 6) := by
  unfold checkB at h
  simp only [Bool.and_eq_true] at h
  exact ⟨inB_t.1 h.1, inB_t.1 h.2.1⟩
theorem RelP.off (h : RelP last S M C xs cl) {m : Ms} (hm : checkB m = true) : C m.frm.toNat m.dst.toNat = offL cl m.frm m.dst := by
  obtain ⟨⟨h1, h2⟩, h3, h4⟩ := check_ends hm
  have := h.cut m.frm.toNat m.dst.toNat (by omega) (by omega)
  rw [this, Int.toNat_of_nonneg h1, Int.toNat_of_nonneg h3]
theorem RelP.send (h : RelP last S M C xs cl) {at_ : Int} {m : Ms} {u : Value} (hn : m.es.length ≤ 20) : RelP (last + 1) (insI S (at_, last + 1, 0)) (setM M (last + 1) m) C (xs ++ [⟨at_, last + 1, m, u⟩]) cl := by
  refine ⟨?_, ?_, ?_, ?_, h.cut, ?_⟩
  · refine (Ag.ins_perm S _).trans ?_
    rw [List.map_append]
    exact h.perm.append_right _
  · intro x hx
    unfold setM
    rcases List.mem_append.1 hx with hx | hx
    · have := h.rg x hx
      rw [if_neg (by omega)]
      exact h.ms x hx
    · obtain rfl : x = _ := by simpa using hx
      rw [if_pos rfl]
  · rw [List.pairwise_append]
    refine ⟨h.ids, List.pairwise_singleton _ _, fun a ha b hb => ?_⟩
    obtain rfl : b = _ := by simpa using hb
    have := h.rg a ha
    show a.id < last + 1
    omega
  · intro x hx
    rcases List.mem_append.1 hx with hx | hx
    · have := h.rg x hx; omega
    · obtain rfl : x = _ := by simpa using hx
      exact Int.le_refl _
  · intro x hx
    rcases List.mem_append.1 hx with hx | hx
    · exact h.es x hx
    · obtain rfl : x = _ := by simpa using hx
      exact hn
theorem RelP.wo_map (id : Int) : woI (xs.map itR) id = (loseR xs id).map itR := by
  unfold woI loseR
  rw [List.filter_map]
  congr 1
  apply List.filter_congr
  intro x _
  by_cases h : x.id = id <;> simp [itR, h]
theorem RelP.hasMem (h : RelP last S M C xs cl) (id : Int) : hasI S id = true ↔ ∃ x ∈ xs, x.id = id := by
  rw [Ag.hasI_iff]
  constructor
  · rintro ⟨s, hs, e⟩
    obtain ⟨x, hx, rfl⟩ := List.mem_map.1 (h.perm.mem_iff.1 hs)
    exact ⟨x, hx, e⟩
  · rintro ⟨x, hx, e⟩
    exact ⟨itR x, h.perm.mem_iff.2 (List.mem_map.2 ⟨x, hx, rfl⟩), e⟩
theorem lose_lt (xs : List Ri) (id : Int) : (loseR xs id).length < xs.length ↔ ∃ x ∈ xs, x.id = id := by
  unfold loseR
  constructor
  · intro h
    refine Classical.byContradiction (fun hn => ?_)
    rw [List.filter_eq_self.2 (fun x hx => by simpa using fun e => hn ⟨x, hx, e⟩)] at h
    omega
  · rintro ⟨x, hx, e⟩
    have h1 := List.length_filter_le (fun x : Ri => decide (x.id ≠ id)) xs
    rcases Nat.lt_or_eq_of_le h1 with h2 | h2
    · exact h2
    · rw [List.length_filter_eq_length_iff] at h2
      have := h2 x hx
      simp [e] at this
theorem RelP.has (h : RelP last S M C xs cl) (id : Int) : hasI S id = decide ((loseR xs id).length < xs.length) := by
  rw [Bool.eq_iff_iff, h.hasMem, decide_eq_true_iff, lose_lt]
theorem RelP.lose (h : RelP last S M C xs cl) (id : Int) : RelP last (woI S id) (delM M id) C (loseR xs id) cl := by
  refine ⟨?_, ?_, h.ids.sublist List.filter_sublist, fun x hx => h.rg x (List.mem_filter.1 hx).1, h.cut, fun x hx => h.es x (List.mem_filter.1 hx).1⟩
  · rw [← RelP.wo_map]
    exact h.perm.filter _
  · intro x hx
    obtain ⟨h1, h2⟩ := List.mem_filter.1 hx
    have h2 : x.id ≠ id := by simpa using h2
    unfold delM
    rw [if_neg h2]
    exact h.ms x h1
theorem RelP.find (h : RelP last S M C xs cl) (hi : ∀ k, (M k).isSome = true ↔ ∃ s ∈ S, s.2.1 = k) (id : Int) :
    (M id = none ∧ xs.find? (fun x => decide (x.id = id)) = none) ∨ ∃ x ∈ xs, M id = some x.m ∧ xs.find? (fun x => decide (x.id = id)) = some x := by
  cases hf : xs.find? (fun x => decide (x.id = id)) with
  | none =>
    refine .inl ⟨?_, rfl⟩
    rw [List.find?_eq_none] at hf
    cases hm : M id with
    | none => rfl
    | some m =>
      obtain ⟨x, hx, e⟩ := (h.hasMem id).1 (Ag.hasI_iff.2 ((hi id).1 (by rw [hm]; rfl)))
      exact absurd e (by simpa using hf x hx)
  | some x =>
    have hx := List.mem_of_find?_eq_some hf
    have he : x.id = id := by simpa using List.find?_some hf
    exact .inr ⟨x, hx, by rw [← he]; exact h.ms x hx, rfl⟩
theorem ndB_bad (a b : Int) : badP a b = !(ndB a && (ndB b && a != b)) := by
  unfold badP ndB inB
  rw [Bool.eq_iff_iff]
  simp [bne]
  omega
theorem pairB_nat {a b : Int} {i j : Nat} (ha : 0 ≤ a) (hb : 0 ≤ b) : pairB (a, b) (i : Int) (j : Int) = true ↔ (i = a.toNat ∧ j = b.toNat) ∨ (i = b.toNat ∧ j = a.toNat) := by
  unfold pairB
  simp only [Bool.or_eq_true, Bool.and_eq_true, beq_iff_eq]
  omega
theorem pair_sym (p : Int × Int) {a b i j : Int} (h : pairB (a, b) i j = true) : pairB p i j = pairB p a b := by
  unfold pairB at *
  rw [Bool.eq_iff_iff]
  simp only [Bool.or_eq_true, Bool.and_eq_true, beq_iff_eq] at *
  omega
theorem off_cut (cl : List (Int × Int)) {a b i j : Int} (h : pairB (a, b) i j = true) : offL (cutP cl a b) i j = false := by
  unfold offL cutP
  rw [List.any_eq_false]
  intro p hp
  rw [pair_sym p h]
  have := (List.mem_filter.1 hp).2
  simpa using this
theorem pair_two {p : Int × Int} {a b i j : Int} (h1 : pairB p i j = true) (h2 : pairB p a b = true) : pairB (a, b) i j = true := by
  unfold pairB at *
  simp only [Bool.or_eq_true, Bool.and_eq_true, beq_iff_eq] at *
  omega
theorem off_keep (cl : List (Int × Int)) {a b i j : Int} (h : pairB (a, b) i j = false) : offL (cutP cl a b) i j = offL cl i j := by
  unfold offL cutP
  rw [List.any_filter, Bool.eq_iff_iff, List.any_eq_true, List.any_eq_true]
  constructor
  · rintro ⟨p, hp, hq⟩
    rw [Bool.and_eq_true] at hq
    exact ⟨p, hp, hq.2⟩
  · rintro ⟨p, hp, hq⟩
    refine ⟨p, hp, ?_⟩
    rw [Bool.and_eq_true]
    refine ⟨?_, hq⟩
    cases hc : pairB p a b
    · rfl
    · rw [pair_two hq hc] at h; cases h
theorem RelP.turn (h : RelP last S M C xs cl) (a b : Int) (off : Bool) : RelP last S M (cutC C a b off) xs (turnR cl a b off) := by
  refine ⟨h.perm, h.ms, h.ids, h.rg, fun i j hi hj => ?_, h.es⟩
  unfold cutC turnR
  rw [ndB_bad]
  cases hg : (ndB a && (ndB b && a != b))
  · rw [if_neg (by simp), if_pos (by rfl)]
    exact h.cut i j hi hj
  · rw [if_pos rfl, if_neg (by simp)]
    simp only [Bool.and_eq_true] at hg
    obtain ⟨g1, g2, g3⟩ := hg
    obtain ⟨a0, a6⟩ := inB_t.1 g1
    obtain ⟨b0, b6⟩ := inB_t.1 g2
    have hspl : offL (cutP cl a b ++ (if off = true then [(a, b)] else [])) (i : Int) j = (offL (cutP cl a b) i j || (off && pairB (a, b) i j)) := by
      unfold offL
      rw [List.any_append]
      cases off <;> simp
    rw [hspl]
    unfold setC
    by_cases hp : pairB (a, b) (i : Int) (j : Int) = true
    · rw [off_cut cl hp, hp]
      rcases (pairB_nat a0 b0).1 hp with ⟨h1, h2⟩ | ⟨h1, h2⟩
      · by_cases h3 : i = b.toNat ∧ j = a.toNat
        · rw [if_pos h3]; simp
        · rw [if_neg h3, if_pos ⟨h1, h2⟩]; simp
      · rw [if_pos ⟨h1, h2⟩]; simp
    · have hpf : pairB (a, b) (i : Int) (j : Int) = false := by simpa using hp
      have hno : ¬ ((i = a.toNat ∧ j = b.toNat) ∨ (i = b.toNat ∧ j = a.toNat)) := fun hh => hp ((pairB_nat a0 b0).2 hh)
      rw [off_keep cl hpf, hpf, if_neg (fun hh => hno (.inr hh)), if_neg (fun hh => hno (.inl hh)), h.cut i j hi hj]
      simp
theorem turn_len (cl : List (Int × Int)) (a b : Int) (off : Bool) : (turnR cl a b off).length ≤ cl.length + 1 := by
  unfold turnR
  split
  · omega
  · rw [List.length_append]
    have := cutP_len cl a b
    cases off <;> simp <;> omega
theorem due_map (xs : List Ri) (now : Int) : (xs.map itR).filter (fun s => decide (s.1 ≤ now)) = (dueF xs now).map itR := by
  unfold dueF
  rw [List.filter_map]
  rfl
theorem left_map (xs : List Ri) (now : Int) : (xs.map itR).filter (fun s => decide (now < s.1)) = (leftF xs now).map itR := by
  unfold leftF
  rw [List.filter_map]
  rfl
theorem RelP.due (h : RelP last S M C xs cl) {l' : Int} (ok : Ag.Ok S l') (now : Int) {cs : List Ri} (hc : CS cs xs now) : cs.map itR = dueI S now := by
  have hd := Ag.due_filter ok now
  have hp : (cs.map itR).Perm (dueI S now) := by
    rw [hd]
    refine (hc.perm.map itR).trans ?_
    rw [← due_map]
    exact (h.perm.filter _).symm
  refine hp.eq_of_pairwise (le := fun a b => soon a b = true) (fun a b _ _ h3 h4 => by rw [Ag.soon_iff] at h3 h4; omega) ?_ ?_
  · rw [List.pairwise_map]
    exact hc.srt.imp (fun {a b} hab => by rw [Ag.soon_iff]; exact hab)
  · exact ok.srt.sublist (List.takeWhile_sublist _)
theorem RelP.out (h : RelP last S M C xs cl) (hok : ∀ k m, M k = some m → checkB m = true) {l' : Int} (ok : Ag.Ok S l') (now : Int) {cs : List Ri} (hc : CS cs xs now) : outM C M (dueI S now) = (outR cl cs).map Prod.fst := by
  rw [← h.due ok now hc]
  have hm : ∀ x ∈ cs, M x.id = some x.m := fun x hx => h.ms x (List.mem_filter.1 (hc.perm.mem_iff.1 hx)).1
  clear hc ok
  induction cs with
  | nil => rfl
  | cons x cs ih =>
    have hx := hm x (by simp)
    have hi := ih (fun y hy => hm y (by simp [hy]))
    have ho := h.off (hok _ _ hx)
    unfold outM outR at hi ⊢
    rw [List.map_cons, List.filterMap_cons, List.filter_cons]
    have hx' : M (itR x).2.1 = some x.m := hx
    rw [hx']
    simp only
    rw [ho]
    cases offL cl x.m.frm x.m.dst
    · simp only [Bool.false_eq_true, if_false, Bool.not_false, if_true, List.map_cons]
      rw [hi]
    · simp only [if_true, Bool.not_true, Bool.false_eq_true, if_false]
      exact hi
theorem RelP.left (h : RelP last S M C xs cl) {l' : Int} (ok : Ag.Ok S l') (now : Int) : RelP last (leftI S now) (delL M (dueI S now)) C (leftF xs now) cl := by
  refine ⟨?_, ?_, h.ids.sublist List.filter_sublist, fun x hx => h.rg x (List.mem_filter.1 hx).1, h.cut, fun x hx => h.es x (List.mem_filter.1 hx).1⟩
  · rw [Ag.left_filter ok, ← left_map]
    exact h.perm.filter _
  · intro x hx
    obtain ⟨h1, h2⟩ := List.mem_filter.1 hx
    have h2 : now < x.at_ := by simpa using h2
    unfold delL
    rw [if_neg]
    · exact h.ms x h1
    · rw [List.any_eq_true]
      rintro ⟨s, hs, e⟩
      rw [Ag.due_filter ok] at hs
      obtain ⟨s1, s2⟩ := List.mem_filter.1 hs
      have s2 : s.1 ≤ now := by simpa using s2
      have e : s.2.1 = x.id := by simpa using e
      obtain ⟨y, hy, rfl⟩ := List.mem_map.1 (h.perm.mem_iff.1 s1)
      have hyx : y = x := by
        have hp := h.ids
        rcases List.getElem_of_mem hy with ⟨i, hi, rfl⟩
        rcases List.getElem_of_mem h1 with ⟨j, hj, rfl⟩
        have hpi := List.pairwise_iff_getElem.1 hp
        have e : xs[i].id = xs[j].id := e
        rcases Nat.lt_trichotomy i j with hij | hij | hij
        · have := hpi i j hi hj hij; omega
        · subst hij; rfl
        · have := hpi j i hj hi hij; omega
      subst hyx
      have : y.at_ ≤ now := s2
      omega
theorem RelP.clear (h : RelP last S M C xs cl) (M' : Int → Option Ms) : RelP last [] M' C [] cl := ⟨List.Perm.refl _, by simp, List.Pairwise.nil, by simp, h.cut, by simp⟩
end
/-- What stays of the net's stays of the reference's. -/
theorem KpR.net {a b : World} (h : KpN a b) : KpR a b := fun k cs ty hb ht => h k cs ty hb (by rcases ht with rfl | rfl | rfl | rfl <;> decide) (by rcases ht with rfl | rfl | rfl | rfl <;> (rintro (h | h) <;> revert h <;> decide))
end Go.Proofs.Ytgmenlfhkhdbdaa.Nt
end

section
/- Drop and Lose, and a block that is none of theirs. (Printed by mkNc1.py.) -/
namespace Go.Proofs.Ytgmenlfhkhdbdaa.Ag
open Go.RowKit Mem
set_option linter.unusedSimpArgs false
set_option linter.unusedVariables false
set_option maxRecDepth 100000

theorem blk_val {w : World} {g : Nat} {v x v' x' : Value} {t t' : TypeId} (h : Blk w g #[v, x] t) (h' : Blk w g #[v', x'] t') : v = v' := by
  have := h.symm.trans h'
  injection this with this
  injection this with e1 _ _
  have := congrArg (fun a => a[0]?) e1
  simpa using this
/-- A block that is not the agenda's. -/
structure AgFr (w : World) (g B : Nat) : Prop where
  ne : g ≠ B
  lt : B < w.heap.size
  own : ∀ v x, Blk w g #[v, x] 154 → v.ownBlock ≠ some B
theorem AgFr.modR {a b : World} {g B : Nat} {R : List Nat} (h : AgFr a g B) (hg : g < a.heap.size) (m : Mod a b R) (hr : g ∉ R) : AgFr b g B :=
  ⟨h.ne, Nat.lt_of_lt_of_le h.lt m.size, fun v x hb => h.own v x (by unfold Blk at *; rw [← m.block g hg hr]; exact hb)⟩
theorem AgFr.mod {a b : World} {g B : Nat} (h : AgFr a g B) (hg : g < a.heap.size) (m : Mod a b []) : AgFr b g B := h.modR hg m (by simp)
theorem AgW.lt {w0 w : World} {g : Nat} {last : Int} {S : List It} (h : AgW w0 w g last S) : g < w.heap.size := by
  obtain ⟨v, l, p, _⟩ := h.at_
  exact p.1.lt
def DropPB (B : Nat) (w0 : World) (g : Nat) (last : Int) (S : List It) (id : Int) (w : World) (e : Ending) (w' : World) : Prop :=
  e = .returned (.bool (hasI S id)) ∧ AgW w0 w' g last (woI S id) ∧ Keep w w' ∧ w'.heap[B]? = w.heap[B]? ∧ AgFr w' g B
set_option maxHeartbeats 2000000 in
theorem dropB_calls (w0 w : World) (g : Nat) (last : Int) (S : List It) (id : Int) (h : AgW w0 w g last S) (hn : S.length ≤ 4096) (B : Nat) (hB : AgFr w g B) :
    Calls Try.prog 40 #[.pointer (some ⟨g, 0, none⟩), .int .i64 id] w (DropPB B w0 g last S id w) := by
  have hma := (Mod.refl w []).alloc (.cells #[.int .i64 id] 3)
  have HW := Lib.hid (h.mod hma)
  have HKA := Lib.hid (Keep.mod hma)
  obtain ⟨v, l, h1, h2, h3⟩ := HW.out.at_
  have hl := h3.length_eq
  have HMEM : Hid (hasI S id = true ↔ ∃ s ∈ l, s.2.1 = id) := Lib.hid (by rw [hasI_iff]; exact ⟨fun ⟨s, hs, e⟩ => ⟨s, h3.mem_iff.2 hs, e⟩, fun ⟨s, hs, e⟩ => ⟨s, h3.mem_iff.1 hs, e⟩⟩)
  have hb := (Blk.new w #[.int .i64 id] 3).cell 0
  have IC := Lib.hid (idx_calls (g + 1) v l id w.heap.size _ h1.2 hb (by omega))
  have hn' : (l.length : Int) ≤ 4096 := by omega
  obtain ⟨ho, hg0⟩ : g < w.heap.size ∧ w.cell? ⟨g, 0, none⟩ = some v := by
    obtain ⟨vv, ll, p1, _, _⟩ := h.at_
    have hk := p1.1.alloc (.cells #[.int .i64 id] 3)
    have := hk.symm.trans h1.1
    injection this with this
    injection this with e1 _ _
    have e2 : vv = v := by
      have := congrArg (fun a => a[0]?) e1
      simpa using this
    exact ⟨p1.1.lt, by have := p1.1.cell 0; rw [e2] at this; exact this⟩
  have HP := Lib.hid h1
  have HFR := Lib.hid (hB.mod ho hma)
  have HBB := Lib.hid (hma.block B hB.lt (by simp))
  clear hB
  have HH := Lib.hid h2
  have HPM := Lib.hid h3
  by_cases hex : ∃ i, ∃ hi : i < l.length, l[i].2.1 = id ∧ ∀ t (ht : t < l.length), t < i → l[t].2.1 ≠ id
  · obtain ⟨i, hi, hx, hbf⟩ := hex
    have hidx := idx_some hi hx hbf
    have hhas : hasI S id = true := HMEM.out.2 ⟨_, List.getElem_mem hi, hx⟩
    rw [hidx] at IC
    have hi0 : (0 : Int) ≤ i := by omega
    have hil : (i : Int) < l.length := by omega
    have RC := Lib.hid (fun w hp => hremove_calls g v last l (l.length - 1) i w hp h2 (by omega) (by omega) (by omega))
    have HF : Hid (∀ w1 w2, Mod (w.alloc (.cells #[.int .i64 id] 3)) w1 [] → HqP g v last l (gt l i) w1 w2 → DropPB B w0 g last S id w (.returned (.bool true)) w2) := Lib.hid (fun w1 w2 m hq => by
      obtain ⟨h', q1, q2, q3⟩ := hq
      have hp1 := HP.out.mod m (by simp) (by simp)
      have hgi : (gt l i).2.1 = id := by rw [gt_eq hi]; exact hx
      have hpw := wo_perm HW.out.ok (q1.trans h3)
      rw [hgi] at hpw
      obtain ⟨k1, k2⟩ := ag_step (HW.out.md.trans0 m) HW.out.gl hp1 q3 q2 hpw (ok_wo HW.out.ok id)
      have hf1 := HFR.out.mod HP.out.1.lt m
      have hv : v.ownBlock ≠ some B := HFR.out.own v _ HP.out.1
      have hm1 := m.block B HFR.out.lt (by simp)
      obtain ⟨v', p', m', o'⟩ := q3
      refine ⟨by rw [hhas], k1, (HKA.out.trans (Keep.mod m)).trans k2, ?_, ⟨HFR.out.ne, Nat.lt_of_lt_of_le hf1.lt m'.size, fun v'' x hb he => ?_⟩⟩
      · rw [m'.block B hf1.lt (by
          intro hm
          rcases List.mem_cons.1 hm with h | h
          · exact HFR.out.ne h.symm
          · exact hv (by simpa using h))]
        exact hm1.trans HBB.out
      · obtain rfl := blk_val hb p'.1
        rcases o' B he with h | h
        · exact hv h
        · have := hf1.lt; omega)
    clear h h1 h2 h3 hl hidx hbf hx hma hb HMEM HKA
    obtain ⟨a, c, rfl⟩ := HP.out.slice
    go_enter Try.func40, Try.ntmps40
    go_wp2_with fail
    (with_reducible refine IC.out.mono ?_)
    rintro e w1 ⟨rfl, hm1⟩
    have HM1 := Lib.hid hm1
    have RC1 := Lib.hid (RC.out w1 (HP.out.mod hm1 (by simp) (by simp)))
    clear hm1 IC RC
    go_wp2_with fail
    (with_reducible refine RC1.out.mono ?_)
    rintro e w2 ⟨rfl, hq⟩
    have HFF := Lib.hid (HF.out _ _ HM1.out hq)
    clear hq HF RC1
    go_wp2_with fail
    go_ret
    exact HFF.out
  · have hno : ∀ t (ht : t < l.length), l[t].2.1 ≠ id := by
      intro t
      induction t using Nat.strongRecOn with
      | _ t ih =>
        intro ht he
        exact hex ⟨t, ht, he, fun u hu hut => ih u hut hu⟩
    have hidx := idx_none hno
    have hhas : hasI S id = false := by
      cases hh : hasI S id with
      | false => rfl
      | true =>
        obtain ⟨s, hs, e⟩ := HMEM.out.1 hh
        obtain ⟨t, ht, rfl⟩ := List.getElem_of_mem hs
        exact absurd e (hno t ht)
    rw [hidx] at IC
    have HF : Hid (∀ w1, Mod (w.alloc (.cells #[.int .i64 id] 3)) w1 [] → DropPB B w0 g last S id w (.returned (.bool false)) w1) := Lib.hid (fun w1 m =>
      ⟨by rw [hhas], by rw [wo_not hhas]; exact HW.out.mod m, HKA.out.trans (Keep.mod m), (m.block B HFR.out.lt (by simp)).trans HBB.out, HFR.out.mod HP.out.1.lt m⟩)
    clear h h1 h2 h3 hl hidx hma hb HMEM HKA hno hex
    obtain ⟨a, c, rfl⟩ := HP.out.slice
    go_enter Try.func40, Try.ntmps40
    go_wp2_with fail
    (with_reducible refine IC.out.mono ?_)
    rintro e w1 ⟨rfl, hm1⟩
    have HFF := Lib.hid (HF.out _ hm1)
    clear hm1 IC HF
    go_wp2_with fail
    go_ret
    exact HFF.out
end Go.Proofs.Ytgmenlfhkhdbdaa.Ag
namespace Go.Proofs.Ytgmenlfhkhdbdaa.Nt
open Go.RowKit Mem _root_.Go.Proofs.Ytgmenlfhkhdbdaa.Nm Ra
open Ag (It AgW AgT Keep insI woI dueI leftI hasI AddP ItAt)
set_option linter.unusedSimpArgs false
set_option linter.unusedVariables false
set_option maxRecDepth 100000
def LosePB (B : Nat) (w0 : World) (g ag mb : Nat) (last : Int) (S : List It) (n : Nat) (M : Int → Option Ms) (C : Nat → Nat → Bool) (id : Int) (w : World) (e : Ending) (w' : World) : Prop :=
  e = .returned (.bool (hasI S id)) ∧ NetW w0 w' g ag mb last (woI S id) n (delM M id) C ∧ KpN w w' ∧ w'.heap[B]? = w.heap[B]? ∧ Ag.AgFr w' ag B
set_option maxHeartbeats 4000000 in
theorem loseB_calls (w0 w : World) (g ag mb : Nat) (last : Int) (S : List It) (n : Nat) (M : Int → Option Ms) (C : Nat → Nat → Bool) (h : NetW w0 w g ag mb last S n M C) (id : Int) (hid1 : -9223372036854775808 ≤ id) (hid2 : id ≤ 9223372036854775807) (B : Nat) (hB : Ag.AgFr w ag B) (hmb : mb ≠ B) :
    Calls Try.prog 17 #[.pointer (some ⟨g, 0, none⟩), .int .i64 id] w (LosePB B w0 g ag mb last S n M C id w) := by
  have HN := Lib.hid h
  have DC : Hid (Calls Try.prog 40 #[.pointer (some ⟨ag, 0, none⟩), .int .i64 id] w (fun e w' => e = .returned (.bool (hasI S id)) ∧ AgW w0 w' ag last (woI S id) ∧ Keep w w' ∧ w'.heap[B]? = w.heap[B]? ∧ Ag.AgFr w' ag B)) := Lib.hid (Ag.dropB_calls w0 w ag last S id h.agw h.sl B hB)
  clear hB
  have c0 : w.cell? ⟨g, 0, none⟩ = some (.pointer (some ⟨ag, 0, none⟩)) := by rw [h.net.cell]; rfl
  have HP : Hid (∀ e w', LosePB B w0 g ag mb last S n M C id w e w' ↔ e = .returned (.bool (hasI S id)) ∧ NetW w0 w' g ag mb last (woI S id) n (delM M id) C ∧ KpN w w' ∧ w'.heap[B]? = w.heap[B]? ∧ Ag.AgFr w' ag B) := Lib.hid (fun _ _ => Iff.rfl)
  have HNO : Hid (hasI S id = false → woI S id = S ∧ delM M id = M) := Lib.hid (fun hh => ⟨Ag.wo_not hh, delM_same (by
    cases hm : M id with
    | none => rfl
    | some m =>
      obtain ⟨s, hs, e⟩ := (h.ids id).1 (by rw [hm]; rfl)
      rw [Ag.hasI_iff.2 ⟨s, hs, e⟩] at hh
      cases hh)⟩)
  have HIW := Lib.hid (ids_wo (S := S) (M := M) id h.ids)
  generalize LosePB B w0 g ag mb last S n M C id w = LP at *
  clear h
  generalize hasI S id = H at *
  generalize hS' : woI S id = S' at *
  have HSL : Hid (S'.length ≤ S.length) := Lib.hid (by rw [← hS']; exact wo_len S id)
  clear hS'
  cases H
  · obtain ⟨hn1, hn2⟩ := HNO.out rfl
    have HN1 := Lib.hid hn1
    have HN2 := Lib.hid hn2
    clear hn1 hn2
    go_enter Try.func17, Try.ntmps17
    go_wp2_with fail
    (with_reducible refine (DC.out).mono ?_)
    rintro e w1 ⟨rfl, ha, hk, hb1, hb2⟩
    have HF := Lib.hid (HN.out.agSame (by rw [HN1.out] at ha; exact ha) hk)
    have HB1 := Lib.hid hb1
    have HB2 := Lib.hid hb2
    clear ha hk hb1 hb2
    go_wp2_with fail
    exact (HP.out _ _).2 ⟨rfl, by rw [HN1.out, HN2.out]; exact HF.out.1, HF.out.2, HB1.out, HB2.out⟩
  · go_enter Try.func17, Try.ntmps17
    go_wp2_with fail
    (with_reducible refine (DC.out).mono ?_)
    rintro e w1 ⟨rfl, ha, hk, hb1, hb2⟩
    have hmp1 : MapS w1 mb n (fun k => (M k).map writeS) := HN.out.mp.same (fun es cl he => hk.map he)
    obtain ⟨w2, hr, hm2, hmod2⟩ := hmp1.drop id hid1 hid2 0
    rw [map_del] at hm2
    have c1 : w1.cell? ⟨g, 1, none⟩ = some (.map (some mb)) := by rw [(hk.blk HN.out.net tN_ag).cell]; rfl
    have HF := Lib.hid (HN.out.put ha hk hm2 hmod2 (Nat.le_trans HSL.out HN.out.sl) (delM_ok HN.out.ok) HIW.out)
    have HB1 := Lib.hid ((hmod2.block B hb2.lt (by rw [List.mem_singleton]; exact fun h => hmb h.symm)).trans hb1)
    have HB2 := Lib.hid (hb2.modR ha.lt hmod2 (by rw [List.mem_singleton]; rintro rfl; obtain ⟨v, l, p, _⟩ := ha.at_; exact hmp1.notBlk p.1 rfl))
    clear ha hk hmp1 hm2 hmod2 hb1 hb2
    go_wp2_with fail
    exact (HP.out _ _).2 ⟨rfl, HF.out.1, HF.out.2, HB1.out, HB2.out⟩
end Go.Proofs.Ytgmenlfhkhdbdaa.Nt
end

section
/- A net's Clear: all messages are lost. -/
namespace Go.Proofs.Ytgmenlfhkhdbdaa.Nt
open Go.RowKit Mem _root_.Go.Proofs.Ytgmenlfhkhdbdaa.Nm Ra
open Ag (It AgW AgT Keep insI woI dueI leftI hasI AddP ItAt soon)
set_option linter.unusedSimpArgs false
set_option linter.unusedVariables false
set_option maxRecDepth 100000

theorem drop_wo {S : List It} {i : Nat} (h : (S.drop i).Pairwise (fun a b => a.2.1 ≠ b.2.1)) (hi : i < S.length) : woI (S.drop i) S[i].2.1 = S.drop (i + 1) := by
  rw [List.drop_eq_getElem_cons hi] at h ⊢
  rw [List.pairwise_cons] at h
  unfold woI
  rw [List.filter_cons, if_neg (by simp), List.filter_eq_self]
  intro s hs
  have := h.1 s hs
  simpa using fun e => this e.symm
def ClearP (w0 : World) (g ag mb : Nat) (last : Int) (n : Nat) (C : Nat → Nat → Bool) (w : World) (e : Ending) (w' : World) : Prop :=
  e = .returned (.tuple #[]) ∧ (∃ M, NetW w0 w' g ag mb last [] n M C) ∧ KpN w w'
set_option maxHeartbeats 8000000 in
theorem clear_calls (w0 w : World) (g ag mb : Nat) (last : Int) (S : List It) (n : Nat) (M : Int → Option Ms) (C : Nat → Nat → Bool) (h : NetW w0 w g ag mb last S n M C) (hl : 0 ≤ last ∧ last ≤ 1000000) :
    Calls Try.prog 48 #[.pointer (some ⟨g, 0, none⟩)] w (ClearP w0 g ag mb last n C w) := by
  have HN := Lib.hid h
  have AC := Lib.hid (Ag.all_calls w0 w ag last S h.agw h.sl)
  have c0 : w.cell? ⟨g, 0, none⟩ = some (.pointer (some ⟨ag, 0, none⟩)) := by rw [h.net.cell]; rfl
  have HRG : Hid (∀ s ∈ S, 1 ≤ s.2.1 ∧ s.2.1 ≤ last) := Lib.hid h.agw.ok.rg
  have hsl := h.sl
  have HP : Hid (∀ w', (∃ M, NetW w0 w' g ag mb last [] n M C) → KpN w w' → ClearP w0 g ag mb last n C w (.returned (.tuple #[])) w') := Lib.hid (fun w' a b => ⟨rfl, a, b⟩)
  generalize ClearP w0 g ag mb last n C w = CP at *
  clear h
  go_enter Try.func48, Try.ntmps48
  go_wp2_with fail
  (with_reducible refine (AC.out).mono ?_)
  rintro e w2 ⟨dv, rfl, hm2, hit⟩
  have HM2 := Lib.hid hm2
  have HIT := Lib.hid hit
  have HN2 := Lib.hid (HN.out.mod hm2)
  obtain ⟨da, dc, rfl⟩ : ∃ a c, dv = .slice a S.length c := by
    rcases hit.shape with ⟨h1, h2⟩ | ⟨q, cap, h1, _⟩
    · exact ⟨none, 0, by rw [h1, h2]; rfl⟩
    · exact ⟨_, _, h1⟩
  have HFR : Hid (∀ B, da = some ⟨B, 0, none⟩ → w.heap.size ≤ B ∧ Ag.AgFr w2 ag B) := Lib.hid (fun B hB => by
    subst hB
    have h1 := own_ge hit B rfl
    have h2 := Rw.own_lt hit B rfl
    obtain ⟨v, l, p, _⟩ := HN.out.agw.at_
    have h3 := p.1.lt
    refine ⟨h1, by omega, h2, fun v' x hb he => ?_⟩
    have := Ag.blk_val hb (p.1.mod hm2 (by simp))
    subst this
    have := (p.own B he).2
    omega)
  clear hm2 hit AC c0
  have hsl' : (S.length : Int) ≤ 4096 := by omega
  go_wp2_with fail
  go_loopw [12] (fun vi wr => ∃ (i : Nat) (M' : Int → Option Ms), vi = .int .i64 (i : Int) ∧ i ≤ S.length ∧ NetW w0 wr g ag mb last (S.drop i) n M' C ∧ KpN w wr ∧ (∀ B, da = some ⟨B, 0, none⟩ → wr.heap[B]? = w2.heap[B]? ∧ Ag.AgFr wr ag B)) (fun vi _ => S.length + 1 - (intOf vi).toNat)
  case atStart => exact ⟨0, M, rfl, Nat.zero_le _, HN2.out, KpN.mod HM2.out, fun B hB => ⟨rfl, (HFR.out B hB).2⟩⟩
  case round =>
    obtain ⟨i, M', rfl, hi, hn, hk, hB⟩ := hrel
    have HNr := Lib.hid hn
    have HKr := Lib.hid hk
    have HBr := Lib.hid hB
    clear hn hk hB HN2 HN
    by_cases hlt : i < S.length
    · have hlt' : (i : Int) < S.length := by omega
      obtain ⟨q, hda, hq, hcs⟩ : ∃ q, da = some ⟨q, 0, none⟩ ∧ w.heap.size ≤ q ∧ (wr.cell? ⟨q, i * 3, none⟩ = some (.int .i64 (S[i]'hlt).1) ∧ wr.cell? ⟨q, i * 3 + 1, none⟩ = some (.int .i64 (S[i]'hlt).2.1) ∧ wr.cell? ⟨q, i * 3 + 2, none⟩ = some (.int .i64 (S[i]'hlt).2.2)) := by
        rcases HIT.out.shape with ⟨_, h0⟩ | ⟨q, cap, a1, a2, a3, a4, a5, a6, a7⟩
        · rw [h0] at hlt; simp at hlt
        · injection a1 with e1 e2 e3
          obtain ⟨b1, b2, b3⟩ := a7 i hlt
          have hh := (HBr.out q e1).1
          exact ⟨q, e1, a2, (World.cell?_of_block hh).trans b1, (World.cell?_of_block hh).trans b2, (World.cell?_of_block hh).trans b3⟩
      subst hda
      obtain ⟨e0, e1, e2⟩ := hcs
      obtain ⟨hid1', hid2'⟩ := HRG.out _ (List.getElem_mem hlt)
      have HDW : Hid (woI (S.drop i) (S[i]'hlt).2.1 = S.drop (i + 1)) := Lib.hid (drop_wo HNr.out.agw.ok.ids hlt)
      generalize S[i]'hlt = x at *
      obtain ⟨x0, id, x2⟩ := x
      simp only at e0 e1 e2 hid1' hid2' HDW
      have HMa := Lib.hid ((Mod.refl wr []).alloc (.cells #[.int .i64 x0, .int .i64 id, .int .i64 x2] 102))
      have HNa := Lib.hid (HNr.out.mod HMa.out)
      have LC := Lib.hid (loseB_calls w0 _ g ag mb last _ n M' C HNa.out id (by omega) (by omega) q ((HBr.out q rfl).2.mod HNr.out.agw.lt HMa.out) (by
        rintro rfl
        obtain ⟨cur, hc⟩ := Ag.own_blk HIT.out mb rfl
        have hb : Blk wr mb cur 102 := by
          unfold Blk at *
          rw [(HBr.out mb rfl).1]
          exact hc
        exact HNr.out.mp.notBlk hb rfl))
      have HKa := Lib.hid (HKr.out.trans (KpN.mod HMa.out))
      have HBa := Lib.hid (HMa.out.block q (HBr.out q rfl).2.lt (by simp))
      have HB0 := Lib.hid ((HBr.out q rfl).1)
      clear HKr HNr HBr HNa
      go_wp2_with fail
      (with_reducible refine (LC.out).mono ?_)
      rintro e w4 ⟨rfl, hn4, hk4, hb4, hf4⟩
      rw [HDW.out] at hn4
      have HN4 := Lib.hid hn4
      have HK4 := Lib.hid (HKa.out.trans hk4)
      have HB4 := Lib.hid (hb4.trans (HBa.out.trans HB0.out))
      have HF4 := Lib.hid hf4
      clear hn4 hk4 hb4 hf4 LC
      go_wp2_with fail
      go_roundw
      case rel => exact ⟨i + 1, _, by go_num, by omega, HN4.out, HK4.out, fun B hB => by
        injection hB with hB
        injection hB with hB
        subst hB
        exact ⟨HB4.out, HF4.out⟩⟩
      case measure => simp [intOf]; omega
    · obtain rfl : i = S.length := by omega
      have HE := Lib.hid (show S.drop S.length = [] from List.drop_length)
      go_wp2_with fail
      go_end0
      exact HP.out _ ⟨_, by have := HNr.out; rw [HE.out] at this; exact this⟩ HKr.out
end Go.Proofs.Ytgmenlfhkhdbdaa.Nt
end

section
/- NetPlays: the acts that come in; Send and Twice on both. -/
namespace Go.Proofs.Ytgmenlfhkhdbdaa.Nt
open Go.RowKit Mem _root_.Go.Proofs.Ytgmenlfhkhdbdaa.Nm Ra
open Ag (It AgW AgT Keep insI woI dueI leftI hasI AddP ItAt soon)
set_option linter.unusedSimpArgs false
set_option linter.unusedVariables false
set_option maxRecDepth 100000

abbrev enSh : Open.Sh := .st (.cat (.int .i64) (.cat (.int .i64) (.cat (.int .i64) (.cat .str .nil))))
abbrev snSh : Open.Sh := .st (.cat (.int .i64) (.cat (.int .i64) (.cat (.int .i64) (.cat .str .nil))))
abbrev msSh : Open.Sh := .st (.cat (.int .i64) (.cat (.int .i64) (.cat (.int .i64) (.cat (.int .i64) (.cat (.int .i64) (.cat (.int .i64) (.cat (.int .i64) (.cat .bool (.cat (.sl enSh 40) (.cat snSh .nil))))))))))
abbrev actSh : Open.Sh := .st (.cat (.int .i64) (.cat (.int .i64) (.cat (.int .i64) (.cat (.int .i64) (.cat .bool (.cat msSh .nil))))))
/-- An act that came in. -/
structure Na where
  k : Int
  a : Int
  b : Int
  c : Int
  off : Bool
  m : Ms
  v : Value
def in64 (n : Int) : Prop := -9223372036854775808 ≤ n ∧ n ≤ 9223372036854775807
theorem in64_of {n : Int} (h : (Lit.int .i64 n).wf = true) : in64 n := by
  unfold in64
  simpa [Lit.wf, IntKind.min, IntKind.max, IntKind.signed, IntKind.bits] using h
theorem ens_rd {w : World} {a : Value} (h : Open.Rd w (.sl enSh 40) [a]) : ∃ l : List En, EnsV w a l ∧ l.length ≤ 140737488351232 ∧ (∀ x ∈ l, x.x.size ≤ 140737488351232) ∧ ∃ ad cap, a = .slice ad l.length cap := by
  obtain ⟨v, rows, hv, ⟨ad, cap, rfl, hc1, hc2, hn, hpos, hcell⟩, hlen, hl1, hrd⟩ := h
  obtain rfl : a = _ := by simpa using hv
  obtain ⟨l, rfl, hl⟩ := Open.rows_map (rows := rows) (fun x : En => [Value.int .i64 x.t, .int .i64 x.k, .int .i64 x.m, .string x.x]) (fun x => x.x.size ≤ 140737488351232) (fun r hr => by
    obtain ⟨x0, y0, rfl, ⟨n0, rfl, w0⟩, x1, y1, rfl, ⟨n1, rfl, w1⟩, x2, y2, rfl, ⟨n2, rfl, w2⟩, x3, y3, rfl, ⟨s, rfl, w3⟩, rfl⟩ := hrd r hr
    exact ⟨⟨n0, n1, n2, s⟩, rfl, w3⟩)
  refine ⟨l, ⟨ad, cap, by rw [List.length_map], by simpa using hc1, ?_⟩, by simp at hlen; omega, hl, ad, cap, by rw [List.length_map]⟩
  by_cases h0 : l = []
  · exact .inl h0
  · obtain ⟨b, off, rfl⟩ := hpos (by simpa using h0) (by decide)
    refine .inr ⟨b, off, rfl, fun i hi => ?_⟩
    have h := fun c hc => (hcell b off rfl i (by simpa using hi) c hc).1
    simp only [List.getElem_map] at h
    exact ⟨h 0 (by decide), h 1 (by decide), h 2 (by decide), h 3 (by decide)⟩
def naC (x : Na) : List Value := [.int .i64 x.k, .int .i64 x.a, .int .i64 x.b, .int .i64 x.c, .bool x.off] ++ msC x.m x.v
structure NaOk (w : World) (x : Na) : Prop where
  a : in64 x.a
  b : in64 x.b
  c : in64 x.c
  ens : EnsV w x.v x.m.es
  len : x.m.es.length ≤ 140737488351232
  tx : ∀ y ∈ x.m.es, y.x.size ≤ 140737488351232
  sx : x.m.sx.size ≤ 140737488351232
theorem acts_rd {w : World} {a : Value} (h : Open.Rd w (.sl actSh 168) [a]) : ∃ (l : List Na) (ad : Option Addr) (cap : Nat), a = .slice ad l.length cap ∧ l.length ≤ cap ∧ l.length ≤ 140737488351232 ∧ (∀ x ∈ l, NaOk w x) ∧
    (l = [] ∨ ∃ b off, ad = some ⟨b, off, none⟩ ∧ ∀ i (hi : i < l.length), ∀ c, c < 18 → w.cell? ⟨b, off + i * 18 + c, none⟩ = (naC l[i])[c]?) := by
  obtain ⟨v, rows, hv, ⟨ad, cap, rfl, hc1, hc2, hn, hpos, hcell⟩, hlen, hl1, hrd⟩ := h
  obtain rfl : a = _ := by simpa using hv
  obtain ⟨l, rfl, hl⟩ := Open.rows_map (rows := rows) naC (NaOk w) (fun r hr => by
    obtain ⟨x0, y0, rfl, ⟨n0, rfl, w0⟩, x1, y1, rfl, ⟨n1, rfl, w1⟩, x2, y2, rfl, ⟨n2, rfl, w2⟩, x3, y3, rfl, ⟨n3, rfl, w3⟩, x4, y4, rfl, ⟨off, rfl⟩, x5, y5, rfl, hm, rfl⟩ := hrd r hr
    obtain ⟨z0, t0, rfl, ⟨m0, rfl, _⟩, z1, t1, rfl, ⟨m1, rfl, _⟩, z2, t2, rfl, ⟨m2, rfl, _⟩, z3, t3, rfl, ⟨m3, rfl, _⟩, z4, t4, rfl, ⟨m4, rfl, _⟩, z5, t5, rfl, ⟨m5, rfl, _⟩, z6, t6, rfl, ⟨m6, rfl, _⟩, z7, t7, rfl, ⟨m7, rfl⟩, z8, t8, rfl, h8, z9, t9, rfl, h9, rfl⟩ := hm
    obtain ⟨s0, p0, rfl, ⟨i0, rfl, _⟩, s1, p1, rfl, ⟨i1, rfl, _⟩, s2, p2, rfl, ⟨i2, rfl, _⟩, s3, p3, rfl, ⟨sx, rfl, hsx⟩, rfl⟩ := h9
    obtain ⟨u, rfl⟩ : ∃ u, z8 = [u] := by obtain ⟨v, _, rfl, _⟩ := h8; exact ⟨v, rfl⟩
    obtain ⟨es, q1, q2, q3, _⟩ := ens_rd h8
    exact ⟨⟨n0, n1, n2, n3, off, ⟨m0, m1, m2, m3, m4, m5, m6, m7, es, i0, i1, i2, sx⟩, u⟩, rfl, in64_of w1, in64_of w2, in64_of w3, q1, q2, q3, hsx⟩)
  refine ⟨l, ad, cap, by simp, by simpa using hc1, by simp at hlen; omega, hl, ?_⟩
  by_cases h0 : l = []
  · exact .inl h0
  · obtain ⟨b, off, rfl⟩ := hpos (by simpa using h0) (by decide)
    refine .inr ⟨b, off, rfl, fun i hi c hc => ?_⟩
    have h := (hcell b off rfl i (by simpa using hi) c hc).1
    rw [List.getElem_map] at h
    exact h
/-- What both say of a message that is sent. -/
def BothP (w0 : World) (g ag mb : Nat) (C : Nat → Nat → Bool) (cl : List (Int × Int)) (last : Int) (n : Nat) (r : Int × List Ri × Int × Int) (len : Nat) (w : World) (e : Ending) (w' : World) : Prop :=
  e = .returned (.tuple #[.int .i64 r.2.2.1, .int .i64 r.2.2.2]) ∧ (∃ S' M' n', NetW w0 w' g ag mb r.1 S' n' M' C ∧ RelP r.1 S' M' C r.2.1 cl ∧ n' ≤ n + 1) ∧ KpN w w' ∧ (last ≤ r.1 ∧ r.1 ≤ last + 1) ∧ r.2.1.length ≤ len + 1
section
variable {w0 w w' : World} {g ag mb n : Nat} {last : Int} {S : List It} {M : Int → Option Ms} {C : Nat → Nat → Bool} {xs : List Ri} {cl : List (Int × Int)} {e : Ending}
theorem send_both (h : RelP last S M C xs cl) {now delay : Int} {m : Ms} {u : Value} (hn : m.es.length ≤ 20) (hs : SendP w0 g ag mb last S n M C now m delay w e w') : BothP w0 g ag mb C cl last n (sendR last xs cl now m u delay) xs.length w e w' := by
  unfold SendP at hs
  unfold BothP sendR
  by_cases h1 : (ixB now && (ixB delay && checkB m)) = true
  · rw [if_pos h1] at hs ⊢
    have hck : checkB m = true := by simp only [Bool.and_eq_true] at h1; exact h1.2.2
    rw [h.off hck, h.len] at hs
    by_cases h2 : offL cl m.frm m.dst = true
    · rw [if_pos h2] at hs ⊢
      exact ⟨hs.1, ⟨S, M, n, hs.2.1, h, by omega⟩, hs.2.2, by dsimp only; omega, by simp⟩
    · rw [if_neg h2] at hs ⊢
      by_cases h3 : 4096 ≤ xs.length
      · rw [if_pos h3] at hs ⊢
        exact ⟨hs.1, ⟨S, M, n, hs.2.1, h, by omega⟩, hs.2.2, by dsimp only; omega, by simp⟩
      · rw [if_neg h3] at hs ⊢
        exact ⟨hs.1, ⟨_, _, _, hs.2.1, h.send hn, Nat.le_refl _⟩, hs.2.2, by dsimp only; omega, by simp⟩
  · rw [if_neg h1] at hs ⊢
    exact ⟨hs.1, ⟨S, M, n, hs.2.1, h, by omega⟩, hs.2.2, by dsimp only; omega, by simp⟩
theorem twice_both (h : RelP last S M C xs cl) (hi : ∀ k, (M k).isSome = true ↔ ∃ s ∈ S, s.2.1 = k) {id now delay : Int} (hs : TwiceP w0 g ag mb last S n M C id now delay w e w') : BothP w0 g ag mb C cl last n (twiceR last xs cl id now delay) xs.length w e w' := by
  unfold TwiceP at hs
  unfold twiceR
  rcases h.find hi id with ⟨h1, h2⟩ | ⟨x, hx, h1, h2⟩
  · rw [h1] at hs
    rw [h2]
    exact ⟨hs.1, ⟨S, M, n, hs.2.1, h, by omega⟩, hs.2.2, by dsimp only; omega, by simp⟩
  · rw [h1] at hs
    rw [h2]
    exact send_both h (h.es x hx) hs
end
end Go.Proofs.Ytgmenlfhkhdbdaa.Nt
end

section
/- NetPlays: does, kind by kind. (Printed by mkNc5.py.) -/
namespace Go.Proofs.Ytgmenlfhkhdbdaa.Nt
open Go.RowKit Mem _root_.Go.Proofs.Ytgmenlfhkhdbdaa.Nm Ra
open Ag (It AgW AgT Keep insI woI dueI leftI hasI AddP ItAt soon)
set_option linter.unusedSimpArgs false
set_option linter.unusedVariables false
set_option maxRecDepth 100000

abbrev tRN : TypeId := 49
abbrev tAct : TypeId := 52
/-- The net and the reference's, behind i acts. -/
def St (w0 W : World) (g ag mb i : Nat) (vl : Value) (last : Int) (vc : Value) (xs : List Ri) : Prop :=
  ∃ S M C n cl, NetW w0 W g ag mb last S n M C ∧ RIt w0.heap.size W vl xs ∧ PRow w0.heap.size W vc cl ∧ RelP last S M C xs cl ∧ 0 ≤ last ∧ last ≤ i ∧ n ≤ i ∧ xs.length ≤ i ∧ cl.length ≤ i
def DoesP (w0 : World) (g ag mb i : Nat) (w : World) (e : Ending) (w' : World) : Prop :=
  ∃ vl' last' vc' xs', e = .returned (.tuple #[rnV vl' last' vc', .bool true]) ∧ St w0 w' g ag mb (i + 1) vl' last' vc' xs' ∧ KpN w w'
/-- The blocks of does' own. -/
structure Dx (b : Nat) (net act : Array Value) (W : World) : Prop where
  b4 : Blk W b net tRN
  b5 : Blk W (b + 1) act tAct
  b6 : Blk W (b + 2) #[.slice none 0 0, .int .i64 0, .slice none 0 0] tRN
theorem nRN : tRN ≠ tN ∧ ¬ AgT tRN ∧ ¬ TR tRN := ⟨by decide, by rintro (h | h) <;> revert h <;> decide, by rintro (h | h | h | h) <;> revert h <;> decide⟩
theorem nAct : tAct ≠ tN ∧ ¬ AgT tAct ∧ ¬ TR tAct := ⟨by decide, by rintro (h | h) <;> revert h <;> decide, by rintro (h | h | h | h) <;> revert h <;> decide⟩
theorem Dx.kp {b : Nat} {net act : Array Value} {A B : World} (h : Dx b net act A) (k : KpN A B) : Dx b net act B := ⟨k _ _ _ h.b4 nRN.1 nRN.2.1, k _ _ _ h.b5 nAct.1 nAct.2.1, k _ _ _ h.b6 nRN.1 nRN.2.1⟩
theorem Dx.mod {b : Nat} {net act : Array Value} {A B : World} (h : Dx b net act A) (m : Mod A B []) : Dx b net act B := h.kp (KpN.mod m)
theorem Dx.new (w : World) (net act : Array Value) : Dx w.heap.size net act (((w.alloc (.cells net tRN)).alloc (.cells act tAct)).alloc (.cells #[.slice none 0 0, .int .i64 0, .slice none 0 0] tRN)) := by
  refine ⟨((Blk.new w net tRN).alloc _).alloc _, ?_, ?_⟩
  · have := (Blk.new (w.alloc (.cells net tRN)) act tAct).alloc (.cells #[.slice none 0 0, .int .i64 0, .slice none 0 0] tRN)
    rw [World.size_alloc] at this
    exact this
  · have := Blk.new ((w.alloc (.cells net tRN)).alloc (.cells act tAct)) #[.slice none 0 0, .int .i64 0, .slice none 0 0] tRN
    rw [World.size_alloc, World.size_alloc] at this
    exact this
theorem KpN.modR {w A B : World} {R : List Nat} (h : KpN w A) (m : Mod A B R) (hr : ∀ r ∈ R, w.heap.size ≤ r) : KpN w B := fun k cs ty hb n1 n2 => (h k cs ty hb n1 n2).mod m (fun hk => by
  have := hr k hk
  have := hb.lt
  omega)
theorem far3 {w : World} {k q : Nat} {cs : Array Value} {t : TypeId} (h : Blk w k cs t) (hne : k ≠ q) (x y z : Value) : Blk (((w.setCell ⟨q, 0, none⟩ x).setCell ⟨q, 1, none⟩ y).setCell ⟨q, 2, none⟩ z) k cs t := ((h.far hne x).far hne y).far hne z
theorem set3 {w : World} {q : Nat} {u0 u1 u2 : Value} {t : TypeId} (h : Blk w q #[u0, u1, u2] t) (x y z : Value) : Blk (((w.setCell ⟨q, 0, none⟩ x).setCell ⟨q, 1, none⟩ y).setCell ⟨q, 2, none⟩ z) q #[x, y, z] t := by
  have := ((h.set 0 x).set 1 y).set 2 z
  simpa using this
theorem mod3 (w : World) (q : Nat) (x y z : Value) : Mod w (((w.setCell ⟨q, 0, none⟩ x).setCell ⟨q, 1, none⟩ y).setCell ⟨q, 2, none⟩ z) [q] := (((Mod.refl w [q]).setCell (p := ⟨q, 0, none⟩) (.inl (by simp)) x).setCell (p := ⟨q, 1, none⟩) (.inl (by simp)) y).setCell (p := ⟨q, 2, none⟩) (.inl (by simp)) z
/-- A new net of the reference's. -/
theorem new3 (w : World) (x y z : Value) : Blk (w.alloc (.cells #[x, y, z] tRN)) w.heap.size #[x, y, z] tRN ∧ Mod w (w.alloc (.cells #[x, y, z] tRN)) [] := ⟨Blk.new w _ tRN, (Mod.refl w []).alloc _⟩
theorem kpr3 {w : World} {q : Nat} {cs : Array Value} (hb : Blk w q cs tRN) (x y z : Value) : KpR w (((w.setCell ⟨q, 0, none⟩ x).setCell ⟨q, 1, none⟩ y).setCell ⟨q, 2, none⟩ z) := fun k cs' ty' h ht => h.mod (mod3 w q x y z) (by
  rw [List.mem_singleton]
  rintro rfl
  rw [blk_uni h hb] at ht
  exact nRN.2.2 ht)
/-- What is answered: the reference's net is laid in the block q. -/
theorem fin_st {w0 w W : World} {g ag mb i n q : Nat} {last : Int} {S : List It} {M : Int → Option Ms} {C : Nat → Nat → Bool} {xs : List Ri} {cl : List (Int × Int)} {vl vc : Value} {cs : Array Value} (hN : NetW w0 W g ag mb last S n M C) (hR : RIt w0.heap.size W vl xs) (hP : PRow w0.heap.size W vc cl) (hL : RelP last S M C xs cl)
    (hb : Blk W q cs tRN) (hqw : w.heap.size ≤ q) (hw0 : w0.heap.size ≤ w.heap.size) (hk : KpN w W) (h1 : 0 ≤ last) (h2 : last ≤ i + 1) (h3 : n ≤ i + 1) (h4 : xs.length ≤ i + 1) (h5 : cl.length ≤ i + 1) (x y z : Value) :
    DoesP w0 g ag mb i w (.returned (.tuple #[rnV vl last vc, .bool true])) (((W.setCell ⟨q, 0, none⟩ x).setCell ⟨q, 1, none⟩ y).setCell ⟨q, 2, none⟩ z) := by
  have m := mod3 W q x y z
  have hkr : KpR W (((W.setCell ⟨q, 0, none⟩ x).setCell ⟨q, 1, none⟩ y).setCell ⟨q, 2, none⟩ z) := fun k cs' ty h ht => h.mod m (by
    rw [List.mem_singleton]
    rintro rfl
    rw [blk_uni h hb] at ht
    exact nRN.2.2 ht)
  refine ⟨vl, last, vc, xs, rfl, ⟨S, M, C, n, cl, hN.far hb (by omega) nRN.1 nRN.2.1 m, hR.kp hkr, hP.kp hkr, hL, h1, by push_cast; exact h2, h3, h4, h5⟩, hk.modR m (by intro r hr; simp only [List.mem_singleton] at hr; subst hr; exact hqw)⟩
/-- Blocks of the reference's net are nobody's. -/
theorem KpN.setRN {w : World} {cs : Array Value} {p : Addr} (hb : Blk w p.block cs tRN) (v : Value) : KpR w (w.setCell p v) := fun k cs' ty' h ht => h.far (by
  rintro rfl
  have := blk_uni h hb
  subst this
  exact nRN.2.2 ht) v
set_option maxHeartbeats 32000000 in
theorem doesN_calls {w0 w : World} {g ag mb i : Nat} {vl : Value} {last : Int} {vc : Value} {xs : List Ri} (h : St w0 w g ag mb i vl last vc xs) (hi : i ≤ 1000) (k : Int) (a b c : Int) (off : Bool) (m : Ms) (v : Value) (hx : NaOk w0 ⟨k, a, b, c, off, m, v⟩) (he : m.es.length ≤ 20) (k0 : k ≠ 0) (k1 : k ≠ 1) (k2 : k ≠ 2) (k3 : k ≠ 3) (k4 : k ≠ 4) (k5 : k ≠ 5) :
    Calls Try.prog 20 #[.pointer (some ⟨g, 0, none⟩), rnV vl last vc, .agg (naC ⟨k, a, b, c, off, m, v⟩).toArray] w (DoesP w0 g ag mb i w) := by
  obtain ⟨S, M, C, n, cl, hN, hR, hP, hL, hb0, hb1, hb2, hb3, hb4⟩ := h
  obtain ⟨xa, xb, xc, xe, _, _, _⟩ := hx
  simp only at xa xb xc xe
  unfold in64 at xa xb xc
  have HE := Lib.hid (xe.mod hN.md)
  obtain ⟨va, vcap, hv, _, _⟩ := xe
  subst hv
  obtain ⟨vla, vlc, rfl⟩ := Rw.own_slice hR.own
  obtain ⟨vca, vcc, rfl⟩ := Rw.own_slice hP
  have HPD : Hid (∀ e w', DoesP w0 g ag mb i w e w' → DoesP w0 g ag mb i w e w') := Lib.hid (fun _ _ h => h)
  generalize hDP : DoesP w0 g ag mb i w = DP at HPD ⊢
  replace HPD : Hid (∀ e w', DoesP w0 g ag mb i w e w' → DP e w') := Lib.hid (fun e w' h => by rw [← hDP]; exact h)
  clear hDP
  have hlast : 0 ≤ last ∧ last ≤ 1000000 := by omega
  have HD0 := Lib.hid (Dx.new w #[.slice vla xs.length vlc, .int .i64 last, .slice vca cl.length vcc] #[.int .i64 k, .int .i64 a, .int .i64 b, .int .i64 c, .bool off, .int .i64 m.kind, .int .i64 m.frm, .int .i64 m.dst, .int .i64 m.term, .int .i64 m.index, .int .i64 m.lt, .int .i64 m.commit, .bool m.yes, .slice va m.es.length vcap, .int .i64 m.si, .int .i64 m.st, .int .i64 m.sm, .string m.sx])
  have HM0 := Lib.hid ((((Mod.refl w []).alloc (.cells #[.slice vla xs.length vlc, .int .i64 last, .slice vca cl.length vcc] tRN)).alloc (.cells #[.int .i64 k, .int .i64 a, .int .i64 b, .int .i64 c, .bool off, .int .i64 m.kind, .int .i64 m.frm, .int .i64 m.dst, .int .i64 m.term, .int .i64 m.index, .int .i64 m.lt, .int .i64 m.commit, .bool m.yes, .slice va m.es.length vcap, .int .i64 m.si, .int .i64 m.st, .int .i64 m.sm, .string m.sx] tAct)).alloc (.cells #[.slice none 0 0, .int .i64 0, .slice none 0 0] tRN))
  have HN0 := Lib.hid (hN.mod HM0.out)
  have HR0 := Lib.hid (hR.mod HM0.out)
  have HP0 := Lib.hid (hP.kp (KpR.mod HM0.out))
  have HE0 := Lib.hid (HE.out.mod HM0.out)
  have HLR := Lib.hid hL
  have hcn : cl.length ≤ 100000 := by omega
  have hxn : xs.length ≤ 100000 := by omega
  have hen : m.es.length ≤ 100000 := by omega
  have hsz : w0.heap.size ≤ w.heap.size := hN.md.size
  clear hN hR hP hL HE
  show Calls _ _ #[_, .agg #[.slice vla xs.length vlc, .int .i64 last, .slice vca cl.length vcc], .agg #[.int .i64 k, .int .i64 a, .int .i64 b, .int .i64 c, .bool off, .int .i64 m.kind, .int .i64 m.frm, .int .i64 m.dst, .int .i64 m.term, .int .i64 m.index, .int .i64 m.lt, .int .i64 m.commit, .bool m.yes, .slice va m.es.length vcap, .int .i64 m.si, .int .i64 m.st, .int .i64 m.sm, .string m.sx]] _ _
  go_enter Try.func20, Try.ntmps20
  go_upto_region 1 with (fail)
  generalize ((w.alloc _).alloc _).alloc _ = w1 at *
  have hsz1 : w0.heap.size ≤ w1.heap.size := Nat.le_trans hsz HM0.out.size
  have hw1 : w.heap.size + 2 < w1.heap.size := HD0.out.b6.lt
  have HK0 := Lib.hid (KpN.mod HM0.out)
  have a0 := HD0.out.b5.cell 0
  have n0 := HD0.out.b4.cell 0
  have n1 := HD0.out.b4.cell 1
  have n2 := HD0.out.b4.cell 2
  have z0 := HD0.out.b6.cell 0
  have z1 := HD0.out.b6.cell 1
  have z2 := HD0.out.b6.cell 2
  have fz0 := HD0.out.b6.free 0
  have fz1 := HD0.out.b6.free 1
  have fz2 := HD0.out.b6.free 2
  have HE9 := Lib.hid (set3 HD0.out.b6 (.slice vla xs.length vlc) (.int .i64 last) (.slice vca cl.length vcc))
  have r0 := HE9.out.cell 0
  have r1 := HE9.out.cell 1
  have r2 := HE9.out.cell 2
  go_wp2_with fail
  refine bodyPost_ret (v := .tuple #[.agg #[.slice vla xs.length vlc, .int .i64 last, .slice vca cl.length vcc], .bool true]) (by simp [results, Try.results20, go_sem, r0, r1, r2]) rfl ?_
  exact HPD.out _ _ (fin_st (i := i) HN0.out HR0.out HP0.out HLR.out HD0.out.b6 (Nat.le_add_right _ _) hsz HK0.out (by omega) (by omega) (by omega) (by omega) (by omega) _ _ _)
set_option maxHeartbeats 32000000 in
theorem does0_calls {w0 w : World} {g ag mb i : Nat} {vl : Value} {last : Int} {vc : Value} {xs : List Ri} (h : St w0 w g ag mb i vl last vc xs) (hi : i ≤ 1000) (a b c : Int) (off : Bool) (m : Ms) (v : Value) (hx : NaOk w0 ⟨0, a, b, c, off, m, v⟩) (he : m.es.length ≤ 20) :
    Calls Try.prog 20 #[.pointer (some ⟨g, 0, none⟩), rnV vl last vc, .agg (naC ⟨0, a, b, c, off, m, v⟩).toArray] w (DoesP w0 g ag mb i w) := by
  obtain ⟨S, M, C, n, cl, hN, hR, hP, hL, hb0, hb1, hb2, hb3, hb4⟩ := h
  obtain ⟨xa, xb, xc, xe, _, _, _⟩ := hx
  simp only at xa xb xc xe
  unfold in64 at xa xb xc
  have HE := Lib.hid (xe.mod hN.md)
  obtain ⟨va, vcap, hv, _, _⟩ := xe
  subst hv
  obtain ⟨vla, vlc, rfl⟩ := Rw.own_slice hR.own
  obtain ⟨vca, vcc, rfl⟩ := Rw.own_slice hP
  have HPD : Hid (∀ e w', DoesP w0 g ag mb i w e w' → DoesP w0 g ag mb i w e w') := Lib.hid (fun _ _ h => h)
  generalize hDP : DoesP w0 g ag mb i w = DP at HPD ⊢
  replace HPD : Hid (∀ e w', DoesP w0 g ag mb i w e w' → DP e w') := Lib.hid (fun e w' h => by rw [← hDP]; exact h)
  clear hDP
  have hlast : 0 ≤ last ∧ last ≤ 1000000 := by omega
  have HD0 := Lib.hid (Dx.new w #[.slice vla xs.length vlc, .int .i64 last, .slice vca cl.length vcc] #[.int .i64 0, .int .i64 a, .int .i64 b, .int .i64 c, .bool off, .int .i64 m.kind, .int .i64 m.frm, .int .i64 m.dst, .int .i64 m.term, .int .i64 m.index, .int .i64 m.lt, .int .i64 m.commit, .bool m.yes, .slice va m.es.length vcap, .int .i64 m.si, .int .i64 m.st, .int .i64 m.sm, .string m.sx])
  have HM0 := Lib.hid ((((Mod.refl w []).alloc (.cells #[.slice vla xs.length vlc, .int .i64 last, .slice vca cl.length vcc] tRN)).alloc (.cells #[.int .i64 0, .int .i64 a, .int .i64 b, .int .i64 c, .bool off, .int .i64 m.kind, .int .i64 m.frm, .int .i64 m.dst, .int .i64 m.term, .int .i64 m.index, .int .i64 m.lt, .int .i64 m.commit, .bool m.yes, .slice va m.es.length vcap, .int .i64 m.si, .int .i64 m.st, .int .i64 m.sm, .string m.sx] tAct)).alloc (.cells #[.slice none 0 0, .int .i64 0, .slice none 0 0] tRN))
  have HN0 := Lib.hid (hN.mod HM0.out)
  have HR0 := Lib.hid (hR.mod HM0.out)
  have HP0 := Lib.hid (hP.kp (KpR.mod HM0.out))
  have HE0 := Lib.hid (HE.out.mod HM0.out)
  have HLR := Lib.hid hL
  have hcn : cl.length ≤ 100000 := by omega
  have hxn : xs.length ≤ 100000 := by omega
  have hen : m.es.length ≤ 100000 := by omega
  have hsz : w0.heap.size ≤ w.heap.size := hN.md.size
  clear hN hR hP hL HE
  show Calls _ _ #[_, .agg #[.slice vla xs.length vlc, .int .i64 last, .slice vca cl.length vcc], .agg #[.int .i64 0, .int .i64 a, .int .i64 b, .int .i64 c, .bool off, .int .i64 m.kind, .int .i64 m.frm, .int .i64 m.dst, .int .i64 m.term, .int .i64 m.index, .int .i64 m.lt, .int .i64 m.commit, .bool m.yes, .slice va m.es.length vcap, .int .i64 m.si, .int .i64 m.st, .int .i64 m.sm, .string m.sx]] _ _
  go_enter Try.func20, Try.ntmps20
  go_upto_region 1 with (fail)
  generalize ((w.alloc _).alloc _).alloc _ = w1 at *
  have hsz1 : w0.heap.size ≤ w1.heap.size := Nat.le_trans hsz HM0.out.size
  have hw1 : w.heap.size + 2 < w1.heap.size := HD0.out.b6.lt
  have HK0 := Lib.hid (KpN.mod HM0.out)
  have a0 := HD0.out.b5.cell 0
  have RFC := Lib.hid (fun W (k : Mod w1 W []) => ref_calls m (.slice va m.es.length vcap) W (HE0.out.mod k) hen)
  have SC := Lib.hid (fun W (k : Mod w1 W []) u (hu : W.ownsRow 0 tRE 4 u m.es.length (rowsE m.es)) => rsendq_calls w0.heap.size W (.slice vla xs.length vlc) (.slice vca cl.length vcc) last xs cl a m u b (HR0.out.mod k) (Nat.le_trans hsz1 k.size) (HP0.out.kp (KpR.mod k)).v hcn hxn hlast hu hen)
  go_upto_region 3 with (fail)
  clear a0
  go_cut [8, 9, 10] (fun s8 s9 s10 wx => ∃ q u ya yc, s8 = .pointer (some ⟨q, 0, none⟩) ∧ s9 = .int .i64 (sendR last xs cl a m u b).2.2.1 ∧ s10 = .int .i64 (sendR last xs cl a m u b).2.2.2 ∧ Mod w1 wx [] ∧ RIt w0.heap.size wx (.slice ya (sendR last xs cl a m u b).2.1.length yc) (sendR last xs cl a m u b).2.1 ∧ Blk wx q #[.slice ya (sendR last xs cl a m u b).2.1.length yc, .int .i64 (sendR last xs cl a m u b).1, .slice vca cl.length vcc] tRN)
  case first =>
    refine He.wp_region_e 16 (fun w' => (w'.cell? ⟨w.heap.size, 0, none⟩ = some (.slice vla xs.length vlc) ∧ w'.cell? ⟨w.heap.size, 1, none⟩ = some (.int .i64 last) ∧ w'.cell? ⟨w.heap.size, 2, none⟩ = some (.slice vca cl.length vcc) ∧ w'.cell? ⟨w.heap.size + 1, 1, none⟩ = some (.int .i64 a) ∧ w'.cell? ⟨w.heap.size + 1, 2, none⟩ = some (.int .i64 b) ∧ w'.cell? ⟨w.heap.size + 1, 3, none⟩ = some (.int .i64 c) ∧ w'.cell? ⟨w.heap.size + 1, 4, none⟩ = some (.bool off) ∧ w'.cell? ⟨w.heap.size + 1, 5, none⟩ = some (.int .i64 m.kind) ∧ w'.cell? ⟨w.heap.size + 1, 6, none⟩ = some (.int .i64 m.frm) ∧ w'.cell? ⟨w.heap.size + 1, 7, none⟩ = some (.int .i64 m.dst) ∧ w'.cell? ⟨w.heap.size + 1, 8, none⟩ = some (.int .i64 m.term) ∧ w'.cell? ⟨w.heap.size + 1, 9, none⟩ = some (.int .i64 m.index) ∧ w'.cell? ⟨w.heap.size + 1, 10, none⟩ = some (.int .i64 m.lt) ∧ w'.cell? ⟨w.heap.size + 1, 11, none⟩ = some (.int .i64 m.commit) ∧ w'.cell? ⟨w.heap.size + 1, 12, none⟩ = some (.bool m.yes) ∧ w'.cell? ⟨w.heap.size + 1, 13, none⟩ = some (.slice va m.es.length vcap) ∧ w'.cell? ⟨w.heap.size + 1, 14, none⟩ = some (.int .i64 m.si) ∧ w'.cell? ⟨w.heap.size + 1, 15, none⟩ = some (.int .i64 m.st) ∧ w'.cell? ⟨w.heap.size + 1, 16, none⟩ = some (.int .i64 m.sm) ∧ w'.cell? ⟨w.heap.size + 1, 17, none⟩ = some (.string m.sx))) (by kernel_rfl) ⟨(HD0.out.mod ((Mod.refl w1 []).drew)).b4.cell 0, (HD0.out.mod ((Mod.refl w1 []).drew)).b4.cell 1, (HD0.out.mod ((Mod.refl w1 []).drew)).b4.cell 2, (HD0.out.mod ((Mod.refl w1 []).drew)).b5.cell 1, (HD0.out.mod ((Mod.refl w1 []).drew)).b5.cell 2, (HD0.out.mod ((Mod.refl w1 []).drew)).b5.cell 3, (HD0.out.mod ((Mod.refl w1 []).drew)).b5.cell 4, (HD0.out.mod ((Mod.refl w1 []).drew)).b5.cell 5, (HD0.out.mod ((Mod.refl w1 []).drew)).b5.cell 6, (HD0.out.mod ((Mod.refl w1 []).drew)).b5.cell 7, (HD0.out.mod ((Mod.refl w1 []).drew)).b5.cell 8, (HD0.out.mod ((Mod.refl w1 []).drew)).b5.cell 9, (HD0.out.mod ((Mod.refl w1 []).drew)).b5.cell 10, (HD0.out.mod ((Mod.refl w1 []).drew)).b5.cell 11, (HD0.out.mod ((Mod.refl w1 []).drew)).b5.cell 12, (HD0.out.mod ((Mod.refl w1 []).drew)).b5.cell 13, (HD0.out.mod ((Mod.refl w1 []).drew)).b5.cell 14, (HD0.out.mod ((Mod.refl w1 []).drew)).b5.cell 15, (HD0.out.mod ((Mod.refl w1 []).drew)).b5.cell 16, (HD0.out.mod ((Mod.refl w1 []).drew)).b5.cell 17⟩ (fun S0 => ?_)
    have HMd := Lib.hid ((Mod.refl w1 []).drew)
    have hwd : w1.heap.size ≤ w1.drew.heap.size := Nat.le_refl _
    have HDd := Lib.hid (HD0.out.mod ((Mod.refl w1 []).drew))
    generalize w1.drew = wd at *
    refine He.wpE_take (i := 0) (v := ?_) rfl (by kernel_rfl) (by kernel_rfl) (by kernel_rfl) (by kernel_rfl) (by kernel_rfl) (fun _ _ _ h => h) (by rfl) ?_ (by assumption) ?_
    rotate_left
    · (intro w' hSw; (try dsimp only at hSw); go_simp; first | done | with_reducible rfl)
    try simp only [List.getElem_toArray, List.getElem_cons_succ, List.getElem_cons_zero, Act.put, List.setIfInBounds_toArray, List.set_cons_zero, List.set_cons_succ]
    refine He.wpE_take (i := 1) (v := ?_) rfl (by kernel_rfl) (by kernel_rfl) (by kernel_rfl) (by kernel_rfl) (by kernel_rfl) (fun _ _ _ h => h) (by rfl) ?_ (by assumption) ?_
    rotate_left
    · (intro w' hSw; (try dsimp only at hSw); go_simp; first | done | with_reducible rfl)
    try simp only [List.getElem_toArray, List.getElem_cons_succ, List.getElem_cons_zero, Act.put, List.setIfInBounds_toArray, List.set_cons_zero, List.set_cons_succ]
    refine He.wpE_take (i := 2) (v := ?_) rfl (by kernel_rfl) (by kernel_rfl) (by kernel_rfl) (by kernel_rfl) (by kernel_rfl) (fun _ _ _ h => h) (by rfl) ?_ (by assumption) ?_
    rotate_left
    · (intro w' hSw; (try dsimp only at hSw); go_simp; first | done | with_reducible rfl)
    try simp only [List.getElem_toArray, List.getElem_cons_succ, List.getElem_cons_zero, Act.put, List.setIfInBounds_toArray, List.set_cons_zero, List.set_cons_succ]
    refine He.wpE_take (i := 3) (v := ?_) rfl (by kernel_rfl) (by kernel_rfl) (by kernel_rfl) (by kernel_rfl) (by kernel_rfl) (fun _ _ _ h => h) (by rfl) ?_ (by assumption) ?_
    rotate_left
    · (intro w' hSw; (try dsimp only at hSw); go_simp; first | done | with_reducible rfl)
    try simp only [List.getElem_toArray, List.getElem_cons_succ, List.getElem_cons_zero, Act.put, List.setIfInBounds_toArray, List.set_cons_zero, List.set_cons_succ]
    refine He.wpE_take (i := 4) (v := ?_) rfl (by kernel_rfl) (by kernel_rfl) (by kernel_rfl) (by kernel_rfl) (by kernel_rfl) (fun _ _ _ h => h) (by rfl) ?_ (by assumption) ?_
    rotate_left
    · (intro w' hSw; (try dsimp only at hSw); go_simp; first | done | with_reducible rfl)
    try simp only [List.getElem_toArray, List.getElem_cons_succ, List.getElem_cons_zero, Act.put, List.setIfInBounds_toArray, List.set_cons_zero, List.set_cons_succ]
    refine He.wpE_take (i := 6) (v := ?_) rfl (by kernel_rfl) (by kernel_rfl) (by kernel_rfl) (by kernel_rfl) (by kernel_rfl) (fun _ _ _ h => h) (by rfl) ?_ (by assumption) ?_
    rotate_left
    · (intro w' hSw; (try dsimp only at hSw); go_simp; first | done | with_reducible rfl)
    try simp only [List.getElem_toArray, List.getElem_cons_succ, List.getElem_cons_zero, Act.put, List.setIfInBounds_toArray, List.set_cons_zero, List.set_cons_succ]
    refine He.wpE_take (i := 7) (v := ?_) rfl (by kernel_rfl) (by kernel_rfl) (by kernel_rfl) (by kernel_rfl) (by kernel_rfl) (fun _ _ _ h => h) (by rfl) ?_ (by assumption) ?_
    rotate_left
    · (intro w' hSw; (try dsimp only at hSw); go_simp; first | done | with_reducible rfl)
    try simp only [List.getElem_toArray, List.getElem_cons_succ, List.getElem_cons_zero, Act.put, List.setIfInBounds_toArray, List.set_cons_zero, List.set_cons_succ]
    refine He.wpE_two (i := 5) (j := 13) (by kernel_rfl) rfl rfl (by rfl) (by rfl) (fun K hK => ?_) (fun K hK => ?_)
    · go_simp
      (with_reducible refine (RFC.out _ HMd.out).mono ?_)
      rintro e wa ⟨u, rfl, hmr, hu⟩
      obtain ⟨ua, uc, rfl⟩ := Rw.own_slice hu
      have HU := Lib.hid (own_low hu (Nat.zero_le _))
      have HMa := Lib.hid (HMd.out.trans0 hmr)
      have HDa := Lib.hid (HDd.out.mod hmr)
      clear hmr hu
      have SN : (wa.cell? ⟨w.heap.size, 0, none⟩ = some (.slice vla xs.length vlc) ∧ wa.cell? ⟨w.heap.size, 1, none⟩ = some (.int .i64 last) ∧ wa.cell? ⟨w.heap.size, 2, none⟩ = some (.slice vca cl.length vcc) ∧ wa.cell? ⟨w.heap.size + 1, 1, none⟩ = some (.int .i64 a) ∧ wa.cell? ⟨w.heap.size + 1, 2, none⟩ = some (.int .i64 b) ∧ wa.cell? ⟨w.heap.size + 1, 3, none⟩ = some (.int .i64 c) ∧ wa.cell? ⟨w.heap.size + 1, 4, none⟩ = some (.bool off) ∧ wa.cell? ⟨w.heap.size + 1, 5, none⟩ = some (.int .i64 m.kind) ∧ wa.cell? ⟨w.heap.size + 1, 6, none⟩ = some (.int .i64 m.frm) ∧ wa.cell? ⟨w.heap.size + 1, 7, none⟩ = some (.int .i64 m.dst) ∧ wa.cell? ⟨w.heap.size + 1, 8, none⟩ = some (.int .i64 m.term) ∧ wa.cell? ⟨w.heap.size + 1, 9, none⟩ = some (.int .i64 m.index) ∧ wa.cell? ⟨w.heap.size + 1, 10, none⟩ = some (.int .i64 m.lt) ∧ wa.cell? ⟨w.heap.size + 1, 11, none⟩ = some (.int .i64 m.commit) ∧ wa.cell? ⟨w.heap.size + 1, 12, none⟩ = some (.bool m.yes) ∧ wa.cell? ⟨w.heap.size + 1, 13, none⟩ = some (.slice va m.es.length vcap) ∧ wa.cell? ⟨w.heap.size + 1, 14, none⟩ = some (.int .i64 m.si) ∧ wa.cell? ⟨w.heap.size + 1, 15, none⟩ = some (.int .i64 m.st) ∧ wa.cell? ⟨w.heap.size + 1, 16, none⟩ = some (.int .i64 m.sm) ∧ wa.cell? ⟨w.heap.size + 1, 17, none⟩ = some (.string m.sx)) := ⟨HDa.out.b4.cell 0, HDa.out.b4.cell 1, HDa.out.b4.cell 2, HDa.out.b5.cell 1, HDa.out.b5.cell 2, HDa.out.b5.cell 3, HDa.out.b5.cell 4, HDa.out.b5.cell 5, HDa.out.b5.cell 6, HDa.out.b5.cell 7, HDa.out.b5.cell 8, HDa.out.b5.cell 9, HDa.out.b5.cell 10, HDa.out.b5.cell 11, HDa.out.b5.cell 12, HDa.out.b5.cell 13, HDa.out.b5.cell 14, HDa.out.b5.cell 15, HDa.out.b5.cell 16, HDa.out.b5.cell 17⟩
      refine hK.out _ _ (fun _ => SN) ?_
      clear hK K S0
      have S0 := SN
      clear SN
      try simp only [Act.put, List.setIfInBounds_toArray, List.set_cons_zero, List.set_cons_succ]
      refine He.wpE_two (i := 8) (j := 13) (by kernel_rfl) rfl rfl (by rfl) (by rfl) (fun K hK => ?_) (fun K hK => ?_)
      · go_simp
        (with_reducible refine (SC.out _ HMa.out _ HU.out).mono ?_)
        rintro e wb ⟨hms, vl', rfl, ho⟩
        obtain ⟨ya, yc, rfl⟩ := Rw.own_slice ho.own
        have HY := Lib.hid ho
        have HMb := Lib.hid (HMa.out.trans0 hms)
        have HDb := Lib.hid (HDa.out.mod hms)
        clear HU
        clear hms ho
        have SN : (wb.cell? ⟨w.heap.size, 0, none⟩ = some (.slice vla xs.length vlc) ∧ wb.cell? ⟨w.heap.size, 1, none⟩ = some (.int .i64 last) ∧ wb.cell? ⟨w.heap.size, 2, none⟩ = some (.slice vca cl.length vcc) ∧ wb.cell? ⟨w.heap.size + 1, 1, none⟩ = some (.int .i64 a) ∧ wb.cell? ⟨w.heap.size + 1, 2, none⟩ = some (.int .i64 b) ∧ wb.cell? ⟨w.heap.size + 1, 3, none⟩ = some (.int .i64 c) ∧ wb.cell? ⟨w.heap.size + 1, 4, none⟩ = some (.bool off) ∧ wb.cell? ⟨w.heap.size + 1, 5, none⟩ = some (.int .i64 m.kind) ∧ wb.cell? ⟨w.heap.size + 1, 6, none⟩ = some (.int .i64 m.frm) ∧ wb.cell? ⟨w.heap.size + 1, 7, none⟩ = some (.int .i64 m.dst) ∧ wb.cell? ⟨w.heap.size + 1, 8, none⟩ = some (.int .i64 m.term) ∧ wb.cell? ⟨w.heap.size + 1, 9, none⟩ = some (.int .i64 m.index) ∧ wb.cell? ⟨w.heap.size + 1, 10, none⟩ = some (.int .i64 m.lt) ∧ wb.cell? ⟨w.heap.size + 1, 11, none⟩ = some (.int .i64 m.commit) ∧ wb.cell? ⟨w.heap.size + 1, 12, none⟩ = some (.bool m.yes) ∧ wb.cell? ⟨w.heap.size + 1, 13, none⟩ = some (.slice va m.es.length vcap) ∧ wb.cell? ⟨w.heap.size + 1, 14, none⟩ = some (.int .i64 m.si) ∧ wb.cell? ⟨w.heap.size + 1, 15, none⟩ = some (.int .i64 m.st) ∧ wb.cell? ⟨w.heap.size + 1, 16, none⟩ = some (.int .i64 m.sm) ∧ wb.cell? ⟨w.heap.size + 1, 17, none⟩ = some (.string m.sx)) := ⟨HDb.out.b4.cell 0, HDb.out.b4.cell 1, HDb.out.b4.cell 2, HDb.out.b5.cell 1, HDb.out.b5.cell 2, HDb.out.b5.cell 3, HDb.out.b5.cell 4, HDb.out.b5.cell 5, HDb.out.b5.cell 6, HDb.out.b5.cell 7, HDb.out.b5.cell 8, HDb.out.b5.cell 9, HDb.out.b5.cell 10, HDb.out.b5.cell 11, HDb.out.b5.cell 12, HDb.out.b5.cell 13, HDb.out.b5.cell 14, HDb.out.b5.cell 15, HDb.out.b5.cell 16, HDb.out.b5.cell 17⟩
        refine hK.out _ _ (fun _ => SN) ?_
        clear hK K S0
        have S0 := SN
        clear SN
        try simp only [Act.put, List.setIfInBounds_toArray, List.set_cons_zero, List.set_cons_succ]
        refine He.wpE_take (i := 9) (v := ?_) rfl (by kernel_rfl) (by kernel_rfl) (by kernel_rfl) (by kernel_rfl) (by kernel_rfl) (fun _ _ _ h => h) (by rfl) ?_ (by assumption) ?_
        rotate_left
        · (intro w' hSw; (try dsimp only at hSw); go_simp; first | done | with_reducible rfl)
        try simp only [List.getElem_toArray, List.getElem_cons_succ, List.getElem_cons_zero, Act.put, List.setIfInBounds_toArray, List.set_cons_zero, List.set_cons_succ]
        refine He.wpE_take (i := 10) (v := ?_) rfl (by kernel_rfl) (by kernel_rfl) (by kernel_rfl) (by kernel_rfl) (by kernel_rfl) (fun _ _ _ h => h) (by rfl) ?_ (by assumption) ?_
        rotate_left
        · (intro w' hSw; (try dsimp only at hSw); go_simp; first | done | with_reducible rfl)
        try simp only [List.getElem_toArray, List.getElem_cons_succ, List.getElem_cons_zero, Act.put, List.setIfInBounds_toArray, List.set_cons_zero, List.set_cons_succ]
        refine He.wpE_take (i := 11) (v := ?_) rfl (by kernel_rfl) (by kernel_rfl) (by kernel_rfl) (by kernel_rfl) (by kernel_rfl) (fun _ _ _ h => h) (by rfl) ?_ (by assumption) ?_
        rotate_left
        · (intro w' hSw; (try dsimp only at hSw); go_simp; first | done | with_reducible rfl)
        try simp only [List.getElem_toArray, List.getElem_cons_succ, List.getElem_cons_zero, Act.put, List.setIfInBounds_toArray, List.set_cons_zero, List.set_cons_succ]
        refine He.wpE_take (i := 12) (v := ?_) rfl (by kernel_rfl) (by kernel_rfl) (by kernel_rfl) (by kernel_rfl) (by kernel_rfl) (fun _ _ _ h => h) (by rfl) ?_ (by assumption) ?_
        rotate_left
        · (intro w' hSw; (try dsimp only at hSw); go_simp; first | done | with_reducible rfl)
        try simp only [List.getElem_toArray, List.getElem_cons_succ, List.getElem_cons_zero, Act.put, List.setIfInBounds_toArray, List.set_cons_zero, List.set_cons_succ]
        refine He.wpE_one (i := 13) (by kernel_rfl) rfl (by rfl) (fun K hK => ?_)
        go_simp
        have HZ := Lib.hid (Blk.new wb #[.slice none 0 0, .int .i64 0, .slice none 0 0] tRN)
        have hma := ((Mod.refl wb []).alloc (.cells #[.slice none 0 0, .int .i64 0, .slice none 0 0] tRN))
        have HMc := Lib.hid (HMb.out.trans0 hma)
        have HDc := Lib.hid (HDb.out.mod hma)
        replace HY := Lib.hid (HY.out.mod hma)
        have hqf : w1.heap.size ≤ wb.heap.size := HMb.out.size
        obtain ⟨q, hq⟩ : ∃ q, wb.heap.size = q := ⟨_, rfl⟩
        rw [hq] at HZ hqf ⊢
        clear hma hq
        generalize wb.alloc _ = wc at *
        have SN : (wc.cell? ⟨w.heap.size, 0, none⟩ = some (.slice vla xs.length vlc) ∧ wc.cell? ⟨w.heap.size, 1, none⟩ = some (.int .i64 last) ∧ wc.cell? ⟨w.heap.size, 2, none⟩ = some (.slice vca cl.length vcc) ∧ wc.cell? ⟨w.heap.size + 1, 1, none⟩ = some (.int .i64 a) ∧ wc.cell? ⟨w.heap.size + 1, 2, none⟩ = some (.int .i64 b) ∧ wc.cell? ⟨w.heap.size + 1, 3, none⟩ = some (.int .i64 c) ∧ wc.cell? ⟨w.heap.size + 1, 4, none⟩ = some (.bool off) ∧ wc.cell? ⟨w.heap.size + 1, 5, none⟩ = some (.int .i64 m.kind) ∧ wc.cell? ⟨w.heap.size + 1, 6, none⟩ = some (.int .i64 m.frm) ∧ wc.cell? ⟨w.heap.size + 1, 7, none⟩ = some (.int .i64 m.dst) ∧ wc.cell? ⟨w.heap.size + 1, 8, none⟩ = some (.int .i64 m.term) ∧ wc.cell? ⟨w.heap.size + 1, 9, none⟩ = some (.int .i64 m.index) ∧ wc.cell? ⟨w.heap.size + 1, 10, none⟩ = some (.int .i64 m.lt) ∧ wc.cell? ⟨w.heap.size + 1, 11, none⟩ = some (.int .i64 m.commit) ∧ wc.cell? ⟨w.heap.size + 1, 12, none⟩ = some (.bool m.yes) ∧ wc.cell? ⟨w.heap.size + 1, 13, none⟩ = some (.slice va m.es.length vcap) ∧ wc.cell? ⟨w.heap.size + 1, 14, none⟩ = some (.int .i64 m.si) ∧ wc.cell? ⟨w.heap.size + 1, 15, none⟩ = some (.int .i64 m.st) ∧ wc.cell? ⟨w.heap.size + 1, 16, none⟩ = some (.int .i64 m.sm) ∧ wc.cell? ⟨w.heap.size + 1, 17, none⟩ = some (.string m.sx)) := ⟨HDc.out.b4.cell 0, HDc.out.b4.cell 1, HDc.out.b4.cell 2, HDc.out.b5.cell 1, HDc.out.b5.cell 2, HDc.out.b5.cell 3, HDc.out.b5.cell 4, HDc.out.b5.cell 5, HDc.out.b5.cell 6, HDc.out.b5.cell 7, HDc.out.b5.cell 8, HDc.out.b5.cell 9, HDc.out.b5.cell 10, HDc.out.b5.cell 11, HDc.out.b5.cell 12, HDc.out.b5.cell 13, HDc.out.b5.cell 14, HDc.out.b5.cell 15, HDc.out.b5.cell 16, HDc.out.b5.cell 17⟩
        refine hK.out _ _ (fun _ => SN) ?_
        clear hK K S0
        have S0 := SN
        clear SN
        try simp only [Act.put, List.setIfInBounds_toArray, List.set_cons_zero, List.set_cons_succ]
        generalize hR : sendR last xs cl a m (.slice ua m.es.length uc) b = r at *
        refine He.wpE_one (i := 14) (by kernel_rfl) rfl (by rfl) (fun K hK => ?_)
        have z0 := HZ.out.cell 0
        have z1 := HZ.out.cell 1
        have z2 := HZ.out.cell 2
        have fz0 := HZ.out.free 0
        have fz1 := HZ.out.free 1
        have fz2 := HZ.out.free 2
        have HZ2 := Lib.hid (set3 HZ.out (.slice ya r.2.1.length yc) (.int .i64 r.1) (.slice vca cl.length vcc))
        have HY2 := Lib.hid (HY.out.kp (kpr3 HZ.out (.slice ya r.2.1.length yc) (.int .i64 r.1) (.slice vca cl.length vcc)))
        have HM9 := Lib.hid (HMc.out.trans (mod3 wc q (.slice ya r.2.1.length yc) (.int .i64 r.1) (.slice vca cl.length vcc)) (by intro r hr; simp only [List.mem_singleton] at hr; subst hr; exact .inr hqf))
        have hq4 : w.heap.size ≠ q := by omega
        have hq5 : w.heap.size + 1 ≠ q := by omega
        have hq6 : w.heap.size + 2 ≠ q := by omega
        have HD9 := Lib.hid (Dx.mk (far3 HDc.out.b4 hq4 (.slice ya r.2.1.length yc) (.int .i64 r.1) (.slice vca cl.length vcc)) (far3 HDc.out.b5 hq5 (.slice ya r.2.1.length yc) (.int .i64 r.1) (.slice vca cl.length vcc)) (far3 HDc.out.b6 hq6 (.slice ya r.2.1.length yc) (.int .i64 r.1) (.slice vca cl.length vcc)))
        go_simp
        clear z0 z1 z2 fz0 fz1 fz2 HZ HY
        generalize World.setCell _ ⟨q, 2, none⟩ _ = w9 at *
        have SN : (w9.cell? ⟨w.heap.size, 0, none⟩ = some (.slice vla xs.length vlc) ∧ w9.cell? ⟨w.heap.size, 1, none⟩ = some (.int .i64 last) ∧ w9.cell? ⟨w.heap.size, 2, none⟩ = some (.slice vca cl.length vcc) ∧ w9.cell? ⟨w.heap.size + 1, 1, none⟩ = some (.int .i64 a) ∧ w9.cell? ⟨w.heap.size + 1, 2, none⟩ = some (.int .i64 b) ∧ w9.cell? ⟨w.heap.size + 1, 3, none⟩ = some (.int .i64 c) ∧ w9.cell? ⟨w.heap.size + 1, 4, none⟩ = some (.bool off) ∧ w9.cell? ⟨w.heap.size + 1, 5, none⟩ = some (.int .i64 m.kind) ∧ w9.cell? ⟨w.heap.size + 1, 6, none⟩ = some (.int .i64 m.frm) ∧ w9.cell? ⟨w.heap.size + 1, 7, none⟩ = some (.int .i64 m.dst) ∧ w9.cell? ⟨w.heap.size + 1, 8, none⟩ = some (.int .i64 m.term) ∧ w9.cell? ⟨w.heap.size + 1, 9, none⟩ = some (.int .i64 m.index) ∧ w9.cell? ⟨w.heap.size + 1, 10, none⟩ = some (.int .i64 m.lt) ∧ w9.cell? ⟨w.heap.size + 1, 11, none⟩ = some (.int .i64 m.commit) ∧ w9.cell? ⟨w.heap.size + 1, 12, none⟩ = some (.bool m.yes) ∧ w9.cell? ⟨w.heap.size + 1, 13, none⟩ = some (.slice va m.es.length vcap) ∧ w9.cell? ⟨w.heap.size + 1, 14, none⟩ = some (.int .i64 m.si) ∧ w9.cell? ⟨w.heap.size + 1, 15, none⟩ = some (.int .i64 m.st) ∧ w9.cell? ⟨w.heap.size + 1, 16, none⟩ = some (.int .i64 m.sm) ∧ w9.cell? ⟨w.heap.size + 1, 17, none⟩ = some (.string m.sx)) := ⟨HD9.out.b4.cell 0, HD9.out.b4.cell 1, HD9.out.b4.cell 2, HD9.out.b5.cell 1, HD9.out.b5.cell 2, HD9.out.b5.cell 3, HD9.out.b5.cell 4, HD9.out.b5.cell 5, HD9.out.b5.cell 6, HD9.out.b5.cell 7, HD9.out.b5.cell 8, HD9.out.b5.cell 9, HD9.out.b5.cell 10, HD9.out.b5.cell 11, HD9.out.b5.cell 12, HD9.out.b5.cell 13, HD9.out.b5.cell 14, HD9.out.b5.cell 15, HD9.out.b5.cell 16, HD9.out.b5.cell 17⟩
        refine hK.out _ _ (fun _ => SN) ?_
        clear hK K S0
        have S0 := SN
        clear SN
        try simp only [Act.put, List.setIfInBounds_toArray, List.set_cons_zero, List.set_cons_succ]
        refine He.wpE_one (i := 15) (by kernel_rfl) rfl (by rfl) (fun K hK => ?_)
        go_simp
        have SN : (w9.cell? ⟨w.heap.size, 0, none⟩ = some (.slice vla xs.length vlc) ∧ w9.cell? ⟨w.heap.size, 1, none⟩ = some (.int .i64 last) ∧ w9.cell? ⟨w.heap.size, 2, none⟩ = some (.slice vca cl.length vcc) ∧ w9.cell? ⟨w.heap.size + 1, 1, none⟩ = some (.int .i64 a) ∧ w9.cell? ⟨w.heap.size + 1, 2, none⟩ = some (.int .i64 b) ∧ w9.cell? ⟨w.heap.size + 1, 3, none⟩ = some (.int .i64 c) ∧ w9.cell? ⟨w.heap.size + 1, 4, none⟩ = some (.bool off) ∧ w9.cell? ⟨w.heap.size + 1, 5, none⟩ = some (.int .i64 m.kind) ∧ w9.cell? ⟨w.heap.size + 1, 6, none⟩ = some (.int .i64 m.frm) ∧ w9.cell? ⟨w.heap.size + 1, 7, none⟩ = some (.int .i64 m.dst) ∧ w9.cell? ⟨w.heap.size + 1, 8, none⟩ = some (.int .i64 m.term) ∧ w9.cell? ⟨w.heap.size + 1, 9, none⟩ = some (.int .i64 m.index) ∧ w9.cell? ⟨w.heap.size + 1, 10, none⟩ = some (.int .i64 m.lt) ∧ w9.cell? ⟨w.heap.size + 1, 11, none⟩ = some (.int .i64 m.commit) ∧ w9.cell? ⟨w.heap.size + 1, 12, none⟩ = some (.bool m.yes) ∧ w9.cell? ⟨w.heap.size + 1, 13, none⟩ = some (.slice va m.es.length vcap) ∧ w9.cell? ⟨w.heap.size + 1, 14, none⟩ = some (.int .i64 m.si) ∧ w9.cell? ⟨w.heap.size + 1, 15, none⟩ = some (.int .i64 m.st) ∧ w9.cell? ⟨w.heap.size + 1, 16, none⟩ = some (.int .i64 m.sm) ∧ w9.cell? ⟨w.heap.size + 1, 17, none⟩ = some (.string m.sx)) := ⟨HD9.out.b4.cell 0, HD9.out.b4.cell 1, HD9.out.b4.cell 2, HD9.out.b5.cell 1, HD9.out.b5.cell 2, HD9.out.b5.cell 3, HD9.out.b5.cell 4, HD9.out.b5.cell 5, HD9.out.b5.cell 6, HD9.out.b5.cell 7, HD9.out.b5.cell 8, HD9.out.b5.cell 9, HD9.out.b5.cell 10, HD9.out.b5.cell 11, HD9.out.b5.cell 12, HD9.out.b5.cell 13, HD9.out.b5.cell 14, HD9.out.b5.cell 15, HD9.out.b5.cell 16, HD9.out.b5.cell 17⟩
        refine hK.out _ _ (fun _ => SN) ?_
        clear hK K S0
        have S0 := SN
        clear SN
        try simp only [Act.put, List.setIfInBounds_toArray, List.set_cons_zero, List.set_cons_succ]
        refine He.wpE_one (i := 16) (by kernel_rfl) rfl (by rfl) (fun K hK => ?_)
        go_simp
        refine hK.out _ _ (fun h => absurd rfl h) ?_
        clear hK K
        refine He.wpE_done (by kernel_rfl) ?_
        try simp only [Act.put, List.setIfInBounds_toArray, List.set_cons_zero, List.set_cons_succ]
        go_wp2_with fail
        go_meet
        exact ⟨q, .slice ua m.es.length uc, ya, yc, rfl, by rw [hR], by rw [hR], HM9.out, by rw [hR]; exact HY2.out, by rw [hR]; exact HZ2.out⟩
      · go_simp
        have HZ := Lib.hid (Blk.new wa #[.slice none 0 0, .int .i64 0, .slice none 0 0] tRN)
        have hma := ((Mod.refl wa []).alloc (.cells #[.slice none 0 0, .int .i64 0, .slice none 0 0] tRN))
        have HMb := Lib.hid (HMa.out.trans0 hma)
        have HDb := Lib.hid (HDa.out.mod hma)
        replace HU := Lib.hid (own_mod HU.out hma (by simp))
        have hqf : w1.heap.size ≤ wa.heap.size := HMa.out.size
        obtain ⟨q, hq⟩ : ∃ q, wa.heap.size = q := ⟨_, rfl⟩
        rw [hq] at HZ hqf ⊢
        clear hma hq
        generalize wa.alloc _ = wb at *
        have SN : (wb.cell? ⟨w.heap.size, 0, none⟩ = some (.slice vla xs.length vlc) ∧ wb.cell? ⟨w.heap.size, 1, none⟩ = some (.int .i64 last) ∧ wb.cell? ⟨w.heap.size, 2, none⟩ = some (.slice vca cl.length vcc) ∧ wb.cell? ⟨w.heap.size + 1, 1, none⟩ = some (.int .i64 a) ∧ wb.cell? ⟨w.heap.size + 1, 2, none⟩ = some (.int .i64 b) ∧ wb.cell? ⟨w.heap.size + 1, 3, none⟩ = some (.int .i64 c) ∧ wb.cell? ⟨w.heap.size + 1, 4, none⟩ = some (.bool off) ∧ wb.cell? ⟨w.heap.size + 1, 5, none⟩ = some (.int .i64 m.kind) ∧ wb.cell? ⟨w.heap.size + 1, 6, none⟩ = some (.int .i64 m.frm) ∧ wb.cell? ⟨w.heap.size + 1, 7, none⟩ = some (.int .i64 m.dst) ∧ wb.cell? ⟨w.heap.size + 1, 8, none⟩ = some (.int .i64 m.term) ∧ wb.cell? ⟨w.heap.size + 1, 9, none⟩ = some (.int .i64 m.index) ∧ wb.cell? ⟨w.heap.size + 1, 10, none⟩ = some (.int .i64 m.lt) ∧ wb.cell? ⟨w.heap.size + 1, 11, none⟩ = some (.int .i64 m.commit) ∧ wb.cell? ⟨w.heap.size + 1, 12, none⟩ = some (.bool m.yes) ∧ wb.cell? ⟨w.heap.size + 1, 13, none⟩ = some (.slice va m.es.length vcap) ∧ wb.cell? ⟨w.heap.size + 1, 14, none⟩ = some (.int .i64 m.si) ∧ wb.cell? ⟨w.heap.size + 1, 15, none⟩ = some (.int .i64 m.st) ∧ wb.cell? ⟨w.heap.size + 1, 16, none⟩ = some (.int .i64 m.sm) ∧ wb.cell? ⟨w.heap.size + 1, 17, none⟩ = some (.string m.sx)) := ⟨HDb.out.b4.cell 0, HDb.out.b4.cell 1, HDb.out.b4.cell 2, HDb.out.b5.cell 1, HDb.out.b5.cell 2, HDb.out.b5.cell 3, HDb.out.b5.cell 4, HDb.out.b5.cell 5, HDb.out.b5.cell 6, HDb.out.b5.cell 7, HDb.out.b5.cell 8, HDb.out.b5.cell 9, HDb.out.b5.cell 10, HDb.out.b5.cell 11, HDb.out.b5.cell 12, HDb.out.b5.cell 13, HDb.out.b5.cell 14, HDb.out.b5.cell 15, HDb.out.b5.cell 16, HDb.out.b5.cell 17⟩
        refine hK.out _ _ (fun _ => SN) ?_
        clear hK K S0
        have S0 := SN
        clear SN
        try simp only [Act.put, List.setIfInBounds_toArray, List.set_cons_zero, List.set_cons_succ]
        refine He.wpE_one (i := 8) (by kernel_rfl) rfl (by rfl) (fun K hK => ?_)
        go_simp
        (with_reducible refine (SC.out _ HMb.out _ HU.out).mono ?_)
        rintro e wc ⟨hms, vl', rfl, ho⟩
        obtain ⟨ya, yc, rfl⟩ := Rw.own_slice ho.own
        have HY := Lib.hid ho
        have HMc := Lib.hid (HMb.out.trans0 hms)
        have HDc := Lib.hid (HDb.out.mod hms)
        clear HU
        replace HZ := Lib.hid (HZ.out.mod hms (by simp))
        clear hms ho
        have SN : (wc.cell? ⟨w.heap.size, 0, none⟩ = some (.slice vla xs.length vlc) ∧ wc.cell? ⟨w.heap.size, 1, none⟩ = some (.int .i64 last) ∧ wc.cell? ⟨w.heap.size, 2, none⟩ = some (.slice vca cl.length vcc) ∧ wc.cell? ⟨w.heap.size + 1, 1, none⟩ = some (.int .i64 a) ∧ wc.cell? ⟨w.heap.size + 1, 2, none⟩ = some (.int .i64 b) ∧ wc.cell? ⟨w.heap.size + 1, 3, none⟩ = some (.int .i64 c) ∧ wc.cell? ⟨w.heap.size + 1, 4, none⟩ = some (.bool off) ∧ wc.cell? ⟨w.heap.size + 1, 5, none⟩ = some (.int .i64 m.kind) ∧ wc.cell? ⟨w.heap.size + 1, 6, none⟩ = some (.int .i64 m.frm) ∧ wc.cell? ⟨w.heap.size + 1, 7, none⟩ = some (.int .i64 m.dst) ∧ wc.cell? ⟨w.heap.size + 1, 8, none⟩ = some (.int .i64 m.term) ∧ wc.cell? ⟨w.heap.size + 1, 9, none⟩ = some (.int .i64 m.index) ∧ wc.cell? ⟨w.heap.size + 1, 10, none⟩ = some (.int .i64 m.lt) ∧ wc.cell? ⟨w.heap.size + 1, 11, none⟩ = some (.int .i64 m.commit) ∧ wc.cell? ⟨w.heap.size + 1, 12, none⟩ = some (.bool m.yes) ∧ wc.cell? ⟨w.heap.size + 1, 13, none⟩ = some (.slice va m.es.length vcap) ∧ wc.cell? ⟨w.heap.size + 1, 14, none⟩ = some (.int .i64 m.si) ∧ wc.cell? ⟨w.heap.size + 1, 15, none⟩ = some (.int .i64 m.st) ∧ wc.cell? ⟨w.heap.size + 1, 16, none⟩ = some (.int .i64 m.sm) ∧ wc.cell? ⟨w.heap.size + 1, 17, none⟩ = some (.string m.sx)) := ⟨HDc.out.b4.cell 0, HDc.out.b4.cell 1, HDc.out.b4.cell 2, HDc.out.b5.cell 1, HDc.out.b5.cell 2, HDc.out.b5.cell 3, HDc.out.b5.cell 4, HDc.out.b5.cell 5, HDc.out.b5.cell 6, HDc.out.b5.cell 7, HDc.out.b5.cell 8, HDc.out.b5.cell 9, HDc.out.b5.cell 10, HDc.out.b5.cell 11, HDc.out.b5.cell 12, HDc.out.b5.cell 13, HDc.out.b5.cell 14, HDc.out.b5.cell 15, HDc.out.b5.cell 16, HDc.out.b5.cell 17⟩
        refine hK.out _ _ (fun _ => SN) ?_
        clear hK K S0
        have S0 := SN
        clear SN
        try simp only [Act.put, List.setIfInBounds_toArray, List.set_cons_zero, List.set_cons_succ]
        refine He.wpE_take (i := 9) (v := ?_) rfl (by kernel_rfl) (by kernel_rfl) (by kernel_rfl) (by kernel_rfl) (by kernel_rfl) (fun _ _ _ h => h) (by rfl) ?_ (by assumption) ?_
        rotate_left
        · (intro w' hSw; (try dsimp only at hSw); go_simp; first | done | with_reducible rfl)
        try simp only [List.getElem_toArray, List.getElem_cons_succ, List.getElem_cons_zero, Act.put, List.setIfInBounds_toArray, List.set_cons_zero, List.set_cons_succ]
        refine He.wpE_take (i := 10) (v := ?_) rfl (by kernel_rfl) (by kernel_rfl) (by kernel_rfl) (by kernel_rfl) (by kernel_rfl) (fun _ _ _ h => h) (by rfl) ?_ (by assumption) ?_
        rotate_left
        · (intro w' hSw; (try dsimp only at hSw); go_simp; first | done | with_reducible rfl)
        try simp only [List.getElem_toArray, List.getElem_cons_succ, List.getElem_cons_zero, Act.put, List.setIfInBounds_toArray, List.set_cons_zero, List.set_cons_succ]
        refine He.wpE_take (i := 11) (v := ?_) rfl (by kernel_rfl) (by kernel_rfl) (by kernel_rfl) (by kernel_rfl) (by kernel_rfl) (fun _ _ _ h => h) (by rfl) ?_ (by assumption) ?_
        rotate_left
        · (intro w' hSw; (try dsimp only at hSw); go_simp; first | done | with_reducible rfl)
        try simp only [List.getElem_toArray, List.getElem_cons_succ, List.getElem_cons_zero, Act.put, List.setIfInBounds_toArray, List.set_cons_zero, List.set_cons_succ]
        refine He.wpE_take (i := 12) (v := ?_) rfl (by kernel_rfl) (by kernel_rfl) (by kernel_rfl) (by kernel_rfl) (by kernel_rfl) (fun _ _ _ h => h) (by rfl) ?_ (by assumption) ?_
        rotate_left
        · (intro w' hSw; (try dsimp only at hSw); go_simp; first | done | with_reducible rfl)
        try simp only [List.getElem_toArray, List.getElem_cons_succ, List.getElem_cons_zero, Act.put, List.setIfInBounds_toArray, List.set_cons_zero, List.set_cons_succ]
        generalize hR : sendR last xs cl a m (.slice ua m.es.length uc) b = r at *
        refine He.wpE_one (i := 14) (by kernel_rfl) rfl (by rfl) (fun K hK => ?_)
        have z0 := HZ.out.cell 0
        have z1 := HZ.out.cell 1
        have z2 := HZ.out.cell 2
        have fz0 := HZ.out.free 0
        have fz1 := HZ.out.free 1
        have fz2 := HZ.out.free 2
        have HZ2 := Lib.hid (set3 HZ.out (.slice ya r.2.1.length yc) (.int .i64 r.1) (.slice vca cl.length vcc))
        have HY2 := Lib.hid (HY.out.kp (kpr3 HZ.out (.slice ya r.2.1.length yc) (.int .i64 r.1) (.slice vca cl.length vcc)))
        have HM9 := Lib.hid (HMc.out.trans (mod3 wc q (.slice ya r.2.1.length yc) (.int .i64 r.1) (.slice vca cl.length vcc)) (by intro r hr; simp only [List.mem_singleton] at hr; subst hr; exact .inr hqf))
        have hq4 : w.heap.size ≠ q := by omega
        have hq5 : w.heap.size + 1 ≠ q := by omega
        have hq6 : w.heap.size + 2 ≠ q := by omega
        have HD9 := Lib.hid (Dx.mk (far3 HDc.out.b4 hq4 (.slice ya r.2.1.length yc) (.int .i64 r.1) (.slice vca cl.length vcc)) (far3 HDc.out.b5 hq5 (.slice ya r.2.1.length yc) (.int .i64 r.1) (.slice vca cl.length vcc)) (far3 HDc.out.b6 hq6 (.slice ya r.2.1.length yc) (.int .i64 r.1) (.slice vca cl.length vcc)))
        go_simp
        clear z0 z1 z2 fz0 fz1 fz2 HZ HY
        generalize World.setCell _ ⟨q, 2, none⟩ _ = w9 at *
        have SN : (w9.cell? ⟨w.heap.size, 0, none⟩ = some (.slice vla xs.length vlc) ∧ w9.cell? ⟨w.heap.size, 1, none⟩ = some (.int .i64 last) ∧ w9.cell? ⟨w.heap.size, 2, none⟩ = some (.slice vca cl.length vcc) ∧ w9.cell? ⟨w.heap.size + 1, 1, none⟩ = some (.int .i64 a) ∧ w9.cell? ⟨w.heap.size + 1, 2, none⟩ = some (.int .i64 b) ∧ w9.cell? ⟨w.heap.size + 1, 3, none⟩ = some (.int .i64 c) ∧ w9.cell? ⟨w.heap.size + 1, 4, none⟩ = some (.bool off) ∧ w9.cell? ⟨w.heap.size + 1, 5, none⟩ = some (.int .i64 m.kind) ∧ w9.cell? ⟨w.heap.size + 1, 6, none⟩ = some (.int .i64 m.frm) ∧ w9.cell? ⟨w.heap.size + 1, 7, none⟩ = some (.int .i64 m.dst) ∧ w9.cell? ⟨w.heap.size + 1, 8, none⟩ = some (.int .i64 m.term) ∧ w9.cell? ⟨w.heap.size + 1, 9, none⟩ = some (.int .i64 m.index) ∧ w9.cell? ⟨w.heap.size + 1, 10, none⟩ = some (.int .i64 m.lt) ∧ w9.cell? ⟨w.heap.size + 1, 11, none⟩ = some (.int .i64 m.commit) ∧ w9.cell? ⟨w.heap.size + 1, 12, none⟩ = some (.bool m.yes) ∧ w9.cell? ⟨w.heap.size + 1, 13, none⟩ = some (.slice va m.es.length vcap) ∧ w9.cell? ⟨w.heap.size + 1, 14, none⟩ = some (.int .i64 m.si) ∧ w9.cell? ⟨w.heap.size + 1, 15, none⟩ = some (.int .i64 m.st) ∧ w9.cell? ⟨w.heap.size + 1, 16, none⟩ = some (.int .i64 m.sm) ∧ w9.cell? ⟨w.heap.size + 1, 17, none⟩ = some (.string m.sx)) := ⟨HD9.out.b4.cell 0, HD9.out.b4.cell 1, HD9.out.b4.cell 2, HD9.out.b5.cell 1, HD9.out.b5.cell 2, HD9.out.b5.cell 3, HD9.out.b5.cell 4, HD9.out.b5.cell 5, HD9.out.b5.cell 6, HD9.out.b5.cell 7, HD9.out.b5.cell 8, HD9.out.b5.cell 9, HD9.out.b5.cell 10, HD9.out.b5.cell 11, HD9.out.b5.cell 12, HD9.out.b5.cell 13, HD9.out.b5.cell 14, HD9.out.b5.cell 15, HD9.out.b5.cell 16, HD9.out.b5.cell 17⟩
        refine hK.out _ _ (fun _ => SN) ?_
        clear hK K S0
        have S0 := SN
        clear SN
        try simp only [Act.put, List.setIfInBounds_toArray, List.set_cons_zero, List.set_cons_succ]
        refine He.wpE_one (i := 15) (by kernel_rfl) rfl (by rfl) (fun K hK => ?_)
        go_simp
        have SN : (w9.cell? ⟨w.heap.size, 0, none⟩ = some (.slice vla xs.length vlc) ∧ w9.cell? ⟨w.heap.size, 1, none⟩ = some (.int .i64 last) ∧ w9.cell? ⟨w.heap.size, 2, none⟩ = some (.slice vca cl.length vcc) ∧ w9.cell? ⟨w.heap.size + 1, 1, none⟩ = some (.int .i64 a) ∧ w9.cell? ⟨w.heap.size + 1, 2, none⟩ = some (.int .i64 b) ∧ w9.cell? ⟨w.heap.size + 1, 3, none⟩ = some (.int .i64 c) ∧ w9.cell? ⟨w.heap.size + 1, 4, none⟩ = some (.bool off) ∧ w9.cell? ⟨w.heap.size + 1, 5, none⟩ = some (.int .i64 m.kind) ∧ w9.cell? ⟨w.heap.size + 1, 6, none⟩ = some (.int .i64 m.frm) ∧ w9.cell? ⟨w.heap.size + 1, 7, none⟩ = some (.int .i64 m.dst) ∧ w9.cell? ⟨w.heap.size + 1, 8, none⟩ = some (.int .i64 m.term) ∧ w9.cell? ⟨w.heap.size + 1, 9, none⟩ = some (.int .i64 m.index) ∧ w9.cell? ⟨w.heap.size + 1, 10, none⟩ = some (.int .i64 m.lt) ∧ w9.cell? ⟨w.heap.size + 1, 11, none⟩ = some (.int .i64 m.commit) ∧ w9.cell? ⟨w.heap.size + 1, 12, none⟩ = some (.bool m.yes) ∧ w9.cell? ⟨w.heap.size + 1, 13, none⟩ = some (.slice va m.es.length vcap) ∧ w9.cell? ⟨w.heap.size + 1, 14, none⟩ = some (.int .i64 m.si) ∧ w9.cell? ⟨w.heap.size + 1, 15, none⟩ = some (.int .i64 m.st) ∧ w9.cell? ⟨w.heap.size + 1, 16, none⟩ = some (.int .i64 m.sm) ∧ w9.cell? ⟨w.heap.size + 1, 17, none⟩ = some (.string m.sx)) := ⟨HD9.out.b4.cell 0, HD9.out.b4.cell 1, HD9.out.b4.cell 2, HD9.out.b5.cell 1, HD9.out.b5.cell 2, HD9.out.b5.cell 3, HD9.out.b5.cell 4, HD9.out.b5.cell 5, HD9.out.b5.cell 6, HD9.out.b5.cell 7, HD9.out.b5.cell 8, HD9.out.b5.cell 9, HD9.out.b5.cell 10, HD9.out.b5.cell 11, HD9.out.b5.cell 12, HD9.out.b5.cell 13, HD9.out.b5.cell 14, HD9.out.b5.cell 15, HD9.out.b5.cell 16, HD9.out.b5.cell 17⟩
        refine hK.out _ _ (fun _ => SN) ?_
        clear hK K S0
        have S0 := SN
        clear SN
        try simp only [Act.put, List.setIfInBounds_toArray, List.set_cons_zero, List.set_cons_succ]
        refine He.wpE_one (i := 16) (by kernel_rfl) rfl (by rfl) (fun K hK => ?_)
        go_simp
        refine hK.out _ _ (fun h => absurd rfl h) ?_
        clear hK K
        refine He.wpE_done (by kernel_rfl) ?_
        try simp only [Act.put, List.setIfInBounds_toArray, List.set_cons_zero, List.set_cons_succ]
        go_wp2_with fail
        go_meet
        exact ⟨q, .slice ua m.es.length uc, ya, yc, rfl, by rw [hR], by rw [hR], HM9.out, by rw [hR]; exact HY2.out, by rw [hR]; exact HZ2.out⟩
    · go_simp
      have HZ := Lib.hid (Blk.new wd #[.slice none 0 0, .int .i64 0, .slice none 0 0] tRN)
      have hma := ((Mod.refl wd []).alloc (.cells #[.slice none 0 0, .int .i64 0, .slice none 0 0] tRN))
      have HMa := Lib.hid (HMd.out.trans0 hma)
      have HDa := Lib.hid (HDd.out.mod hma)
      have hqf : w1.heap.size ≤ wd.heap.size := HMd.out.size
      obtain ⟨q, hq⟩ : ∃ q, wd.heap.size = q := ⟨_, rfl⟩
      rw [hq] at HZ hqf ⊢
      clear hma hq
      generalize wd.alloc _ = wa at *
      have SN : (wa.cell? ⟨w.heap.size, 0, none⟩ = some (.slice vla xs.length vlc) ∧ wa.cell? ⟨w.heap.size, 1, none⟩ = some (.int .i64 last) ∧ wa.cell? ⟨w.heap.size, 2, none⟩ = some (.slice vca cl.length vcc) ∧ wa.cell? ⟨w.heap.size + 1, 1, none⟩ = some (.int .i64 a) ∧ wa.cell? ⟨w.heap.size + 1, 2, none⟩ = some (.int .i64 b) ∧ wa.cell? ⟨w.heap.size + 1, 3, none⟩ = some (.int .i64 c) ∧ wa.cell? ⟨w.heap.size + 1, 4, none⟩ = some (.bool off) ∧ wa.cell? ⟨w.heap.size + 1, 5, none⟩ = some (.int .i64 m.kind) ∧ wa.cell? ⟨w.heap.size + 1, 6, none⟩ = some (.int .i64 m.frm) ∧ wa.cell? ⟨w.heap.size + 1, 7, none⟩ = some (.int .i64 m.dst) ∧ wa.cell? ⟨w.heap.size + 1, 8, none⟩ = some (.int .i64 m.term) ∧ wa.cell? ⟨w.heap.size + 1, 9, none⟩ = some (.int .i64 m.index) ∧ wa.cell? ⟨w.heap.size + 1, 10, none⟩ = some (.int .i64 m.lt) ∧ wa.cell? ⟨w.heap.size + 1, 11, none⟩ = some (.int .i64 m.commit) ∧ wa.cell? ⟨w.heap.size + 1, 12, none⟩ = some (.bool m.yes) ∧ wa.cell? ⟨w.heap.size + 1, 13, none⟩ = some (.slice va m.es.length vcap) ∧ wa.cell? ⟨w.heap.size + 1, 14, none⟩ = some (.int .i64 m.si) ∧ wa.cell? ⟨w.heap.size + 1, 15, none⟩ = some (.int .i64 m.st) ∧ wa.cell? ⟨w.heap.size + 1, 16, none⟩ = some (.int .i64 m.sm) ∧ wa.cell? ⟨w.heap.size + 1, 17, none⟩ = some (.string m.sx)) := ⟨HDa.out.b4.cell 0, HDa.out.b4.cell 1, HDa.out.b4.cell 2, HDa.out.b5.cell 1, HDa.out.b5.cell 2, HDa.out.b5.cell 3, HDa.out.b5.cell 4, HDa.out.b5.cell 5, HDa.out.b5.cell 6, HDa.out.b5.cell 7, HDa.out.b5.cell 8, HDa.out.b5.cell 9, HDa.out.b5.cell 10, HDa.out.b5.cell 11, HDa.out.b5.cell 12, HDa.out.b5.cell 13, HDa.out.b5.cell 14, HDa.out.b5.cell 15, HDa.out.b5.cell 16, HDa.out.b5.cell 17⟩
      refine hK.out _ _ (fun _ => SN) ?_
      clear hK K S0
      have S0 := SN
      clear SN
      try simp only [Act.put, List.setIfInBounds_toArray, List.set_cons_zero, List.set_cons_succ]
      refine He.wpE_one (i := 5) (by kernel_rfl) rfl (by rfl) (fun K hK => ?_)
      go_simp
      (with_reducible refine (RFC.out _ HMa.out).mono ?_)
      rintro e wb ⟨u, rfl, hmr, hu⟩
      obtain ⟨ua, uc, rfl⟩ := Rw.own_slice hu
      have HU := Lib.hid (own_low hu (Nat.zero_le _))
      have HMb := Lib.hid (HMa.out.trans0 hmr)
      have HDb := Lib.hid (HDa.out.mod hmr)
      replace HZ := Lib.hid (HZ.out.mod hmr (by simp))
      clear hmr hu
      have SN : (wb.cell? ⟨w.heap.size, 0, none⟩ = some (.slice vla xs.length vlc) ∧ wb.cell? ⟨w.heap.size, 1, none⟩ = some (.int .i64 last) ∧ wb.cell? ⟨w.heap.size, 2, none⟩ = some (.slice vca cl.length vcc) ∧ wb.cell? ⟨w.heap.size + 1, 1, none⟩ = some (.int .i64 a) ∧ wb.cell? ⟨w.heap.size + 1, 2, none⟩ = some (.int .i64 b) ∧ wb.cell? ⟨w.heap.size + 1, 3, none⟩ = some (.int .i64 c) ∧ wb.cell? ⟨w.heap.size + 1, 4, none⟩ = some (.bool off) ∧ wb.cell? ⟨w.heap.size + 1, 5, none⟩ = some (.int .i64 m.kind) ∧ wb.cell? ⟨w.heap.size + 1, 6, none⟩ = some (.int .i64 m.frm) ∧ wb.cell? ⟨w.heap.size + 1, 7, none⟩ = some (.int .i64 m.dst) ∧ wb.cell? ⟨w.heap.size + 1, 8, none⟩ = some (.int .i64 m.term) ∧ wb.cell? ⟨w.heap.size + 1, 9, none⟩ = some (.int .i64 m.index) ∧ wb.cell? ⟨w.heap.size + 1, 10, none⟩ = some (.int .i64 m.lt) ∧ wb.cell? ⟨w.heap.size + 1, 11, none⟩ = some (.int .i64 m.commit) ∧ wb.cell? ⟨w.heap.size + 1, 12, none⟩ = some (.bool m.yes) ∧ wb.cell? ⟨w.heap.size + 1, 13, none⟩ = some (.slice va m.es.length vcap) ∧ wb.cell? ⟨w.heap.size + 1, 14, none⟩ = some (.int .i64 m.si) ∧ wb.cell? ⟨w.heap.size + 1, 15, none⟩ = some (.int .i64 m.st) ∧ wb.cell? ⟨w.heap.size + 1, 16, none⟩ = some (.int .i64 m.sm) ∧ wb.cell? ⟨w.heap.size + 1, 17, none⟩ = some (.string m.sx)) := ⟨HDb.out.b4.cell 0, HDb.out.b4.cell 1, HDb.out.b4.cell 2, HDb.out.b5.cell 1, HDb.out.b5.cell 2, HDb.out.b5.cell 3, HDb.out.b5.cell 4, HDb.out.b5.cell 5, HDb.out.b5.cell 6, HDb.out.b5.cell 7, HDb.out.b5.cell 8, HDb.out.b5.cell 9, HDb.out.b5.cell 10, HDb.out.b5.cell 11, HDb.out.b5.cell 12, HDb.out.b5.cell 13, HDb.out.b5.cell 14, HDb.out.b5.cell 15, HDb.out.b5.cell 16, HDb.out.b5.cell 17⟩
      refine hK.out _ _ (fun _ => SN) ?_
      clear hK K S0
      have S0 := SN
      clear SN
      try simp only [Act.put, List.setIfInBounds_toArray, List.set_cons_zero, List.set_cons_succ]
      refine He.wpE_one (i := 8) (by kernel_rfl) rfl (by rfl) (fun K hK => ?_)
      go_simp
      (with_reducible refine (SC.out _ HMb.out _ HU.out).mono ?_)
      rintro e wc ⟨hms, vl', rfl, ho⟩
      obtain ⟨ya, yc, rfl⟩ := Rw.own_slice ho.own
      have HY := Lib.hid ho
      have HMc := Lib.hid (HMb.out.trans0 hms)
      have HDc := Lib.hid (HDb.out.mod hms)
      clear HU
      replace HZ := Lib.hid (HZ.out.mod hms (by simp))
      clear hms ho
      have SN : (wc.cell? ⟨w.heap.size, 0, none⟩ = some (.slice vla xs.length vlc) ∧ wc.cell? ⟨w.heap.size, 1, none⟩ = some (.int .i64 last) ∧ wc.cell? ⟨w.heap.size, 2, none⟩ = some (.slice vca cl.length vcc) ∧ wc.cell? ⟨w.heap.size + 1, 1, none⟩ = some (.int .i64 a) ∧ wc.cell? ⟨w.heap.size + 1, 2, none⟩ = some (.int .i64 b) ∧ wc.cell? ⟨w.heap.size + 1, 3, none⟩ = some (.int .i64 c) ∧ wc.cell? ⟨w.heap.size + 1, 4, none⟩ = some (.bool off) ∧ wc.cell? ⟨w.heap.size + 1, 5, none⟩ = some (.int .i64 m.kind) ∧ wc.cell? ⟨w.heap.size + 1, 6, none⟩ = some (.int .i64 m.frm) ∧ wc.cell? ⟨w.heap.size + 1, 7, none⟩ = some (.int .i64 m.dst) ∧ wc.cell? ⟨w.heap.size + 1, 8, none⟩ = some (.int .i64 m.term) ∧ wc.cell? ⟨w.heap.size + 1, 9, none⟩ = some (.int .i64 m.index) ∧ wc.cell? ⟨w.heap.size + 1, 10, none⟩ = some (.int .i64 m.lt) ∧ wc.cell? ⟨w.heap.size + 1, 11, none⟩ = some (.int .i64 m.commit) ∧ wc.cell? ⟨w.heap.size + 1, 12, none⟩ = some (.bool m.yes) ∧ wc.cell? ⟨w.heap.size + 1, 13, none⟩ = some (.slice va m.es.length vcap) ∧ wc.cell? ⟨w.heap.size + 1, 14, none⟩ = some (.int .i64 m.si) ∧ wc.cell? ⟨w.heap.size + 1, 15, none⟩ = some (.int .i64 m.st) ∧ wc.cell? ⟨w.heap.size + 1, 16, none⟩ = some (.int .i64 m.sm) ∧ wc.cell? ⟨w.heap.size + 1, 17, none⟩ = some (.string m.sx)) := ⟨HDc.out.b4.cell 0, HDc.out.b4.cell 1, HDc.out.b4.cell 2, HDc.out.b5.cell 1, HDc.out.b5.cell 2, HDc.out.b5.cell 3, HDc.out.b5.cell 4, HDc.out.b5.cell 5, HDc.out.b5.cell 6, HDc.out.b5.cell 7, HDc.out.b5.cell 8, HDc.out.b5.cell 9, HDc.out.b5.cell 10, HDc.out.b5.cell 11, HDc.out.b5.cell 12, HDc.out.b5.cell 13, HDc.out.b5.cell 14, HDc.out.b5.cell 15, HDc.out.b5.cell 16, HDc.out.b5.cell 17⟩
      refine hK.out _ _ (fun _ => SN) ?_
      clear hK K S0
      have S0 := SN
      clear SN
      try simp only [Act.put, List.setIfInBounds_toArray, List.set_cons_zero, List.set_cons_succ]
      refine He.wpE_take (i := 9) (v := ?_) rfl (by kernel_rfl) (by kernel_rfl) (by kernel_rfl) (by kernel_rfl) (by kernel_rfl) (fun _ _ _ h => h) (by rfl) ?_ (by assumption) ?_
      rotate_left
      · (intro w' hSw; (try dsimp only at hSw); go_simp; first | done | with_reducible rfl)
      try simp only [List.getElem_toArray, List.getElem_cons_succ, List.getElem_cons_zero, Act.put, List.setIfInBounds_toArray, List.set_cons_zero, List.set_cons_succ]
      refine He.wpE_take (i := 10) (v := ?_) rfl (by kernel_rfl) (by kernel_rfl) (by kernel_rfl) (by kernel_rfl) (by kernel_rfl) (fun _ _ _ h => h) (by rfl) ?_ (by assumption) ?_
      rotate_left
      · (intro w' hSw; (try dsimp only at hSw); go_simp; first | done | with_reducible rfl)
      try simp only [List.getElem_toArray, List.getElem_cons_succ, List.getElem_cons_zero, Act.put, List.setIfInBounds_toArray, List.set_cons_zero, List.set_cons_succ]
      refine He.wpE_take (i := 11) (v := ?_) rfl (by kernel_rfl) (by kernel_rfl) (by kernel_rfl) (by kernel_rfl) (by kernel_rfl) (fun _ _ _ h => h) (by rfl) ?_ (by assumption) ?_
      rotate_left
      · (intro w' hSw; (try dsimp only at hSw); go_simp; first | done | with_reducible rfl)
      try simp only [List.getElem_toArray, List.getElem_cons_succ, List.getElem_cons_zero, Act.put, List.setIfInBounds_toArray, List.set_cons_zero, List.set_cons_succ]
      refine He.wpE_take (i := 12) (v := ?_) rfl (by kernel_rfl) (by kernel_rfl) (by kernel_rfl) (by kernel_rfl) (by kernel_rfl) (fun _ _ _ h => h) (by rfl) ?_ (by assumption) ?_
      rotate_left
      · (intro w' hSw; (try dsimp only at hSw); go_simp; first | done | with_reducible rfl)
      try simp only [List.getElem_toArray, List.getElem_cons_succ, List.getElem_cons_zero, Act.put, List.setIfInBounds_toArray, List.set_cons_zero, List.set_cons_succ]
      generalize hR : sendR last xs cl a m (.slice ua m.es.length uc) b = r at *
      refine He.wpE_one (i := 14) (by kernel_rfl) rfl (by rfl) (fun K hK => ?_)
      have z0 := HZ.out.cell 0
      have z1 := HZ.out.cell 1
      have z2 := HZ.out.cell 2
      have fz0 := HZ.out.free 0
      have fz1 := HZ.out.free 1
      have fz2 := HZ.out.free 2
      have HZ2 := Lib.hid (set3 HZ.out (.slice ya r.2.1.length yc) (.int .i64 r.1) (.slice vca cl.length vcc))
      have HY2 := Lib.hid (HY.out.kp (kpr3 HZ.out (.slice ya r.2.1.length yc) (.int .i64 r.1) (.slice vca cl.length vcc)))
      have HM9 := Lib.hid (HMc.out.trans (mod3 wc q (.slice ya r.2.1.length yc) (.int .i64 r.1) (.slice vca cl.length vcc)) (by intro r hr; simp only [List.mem_singleton] at hr; subst hr; exact .inr hqf))
      have hq4 : w.heap.size ≠ q := by omega
      have hq5 : w.heap.size + 1 ≠ q := by omega
      have hq6 : w.heap.size + 2 ≠ q := by omega
      have HD9 := Lib.hid (Dx.mk (far3 HDc.out.b4 hq4 (.slice ya r.2.1.length yc) (.int .i64 r.1) (.slice vca cl.length vcc)) (far3 HDc.out.b5 hq5 (.slice ya r.2.1.length yc) (.int .i64 r.1) (.slice vca cl.length vcc)) (far3 HDc.out.b6 hq6 (.slice ya r.2.1.length yc) (.int .i64 r.1) (.slice vca cl.length vcc)))
      go_simp
      clear z0 z1 z2 fz0 fz1 fz2 HZ HY
      generalize World.setCell _ ⟨q, 2, none⟩ _ = w9 at *
      have SN : (w9.cell? ⟨w.heap.size, 0, none⟩ = some (.slice vla xs.length vlc) ∧ w9.cell? ⟨w.heap.size, 1, none⟩ = some (.int .i64 last) ∧ w9.cell? ⟨w.heap.size, 2, none⟩ = some (.slice vca cl.length vcc) ∧ w9.cell? ⟨w.heap.size + 1, 1, none⟩ = some (.int .i64 a) ∧ w9.cell? ⟨w.heap.size + 1, 2, none⟩ = some (.int .i64 b) ∧ w9.cell? ⟨w.heap.size + 1, 3, none⟩ = some (.int .i64 c) ∧ w9.cell? ⟨w.heap.size + 1, 4, none⟩ = some (.bool off) ∧ w9.cell? ⟨w.heap.size + 1, 5, none⟩ = some (.int .i64 m.kind) ∧ w9.cell? ⟨w.heap.size + 1, 6, none⟩ = some (.int .i64 m.frm) ∧ w9.cell? ⟨w.heap.size + 1, 7, none⟩ = some (.int .i64 m.dst) ∧ w9.cell? ⟨w.heap.size + 1, 8, none⟩ = some (.int .i64 m.term) ∧ w9.cell? ⟨w.heap.size + 1, 9, none⟩ = some (.int .i64 m.index) ∧ w9.cell? ⟨w.heap.size + 1, 10, none⟩ = some (.int .i64 m.lt) ∧ w9.cell? ⟨w.heap.size + 1, 11, none⟩ = some (.int .i64 m.commit) ∧ w9.cell? ⟨w.heap.size + 1, 12, none⟩ = some (.bool m.yes) ∧ w9.cell? ⟨w.heap.size + 1, 13, none⟩ = some (.slice va m.es.length vcap) ∧ w9.cell? ⟨w.heap.size + 1, 14, none⟩ = some (.int .i64 m.si) ∧ w9.cell? ⟨w.heap.size + 1, 15, none⟩ = some (.int .i64 m.st) ∧ w9.cell? ⟨w.heap.size + 1, 16, none⟩ = some (.int .i64 m.sm) ∧ w9.cell? ⟨w.heap.size + 1, 17, none⟩ = some (.string m.sx)) := ⟨HD9.out.b4.cell 0, HD9.out.b4.cell 1, HD9.out.b4.cell 2, HD9.out.b5.cell 1, HD9.out.b5.cell 2, HD9.out.b5.cell 3, HD9.out.b5.cell 4, HD9.out.b5.cell 5, HD9.out.b5.cell 6, HD9.out.b5.cell 7, HD9.out.b5.cell 8, HD9.out.b5.cell 9, HD9.out.b5.cell 10, HD9.out.b5.cell 11, HD9.out.b5.cell 12, HD9.out.b5.cell 13, HD9.out.b5.cell 14, HD9.out.b5.cell 15, HD9.out.b5.cell 16, HD9.out.b5.cell 17⟩
      refine hK.out _ _ (fun _ => SN) ?_
      clear hK K S0
      have S0 := SN
      clear SN
      try simp only [Act.put, List.setIfInBounds_toArray, List.set_cons_zero, List.set_cons_succ]
      refine He.wpE_one (i := 15) (by kernel_rfl) rfl (by rfl) (fun K hK => ?_)
      go_simp
      have SN : (w9.cell? ⟨w.heap.size, 0, none⟩ = some (.slice vla xs.length vlc) ∧ w9.cell? ⟨w.heap.size, 1, none⟩ = some (.int .i64 last) ∧ w9.cell? ⟨w.heap.size, 2, none⟩ = some (.slice vca cl.length vcc) ∧ w9.cell? ⟨w.heap.size + 1, 1, none⟩ = some (.int .i64 a) ∧ w9.cell? ⟨w.heap.size + 1, 2, none⟩ = some (.int .i64 b) ∧ w9.cell? ⟨w.heap.size + 1, 3, none⟩ = some (.int .i64 c) ∧ w9.cell? ⟨w.heap.size + 1, 4, none⟩ = some (.bool off) ∧ w9.cell? ⟨w.heap.size + 1, 5, none⟩ = some (.int .i64 m.kind) ∧ w9.cell? ⟨w.heap.size + 1, 6, none⟩ = some (.int .i64 m.frm) ∧ w9.cell? ⟨w.heap.size + 1, 7, none⟩ = some (.int .i64 m.dst) ∧ w9.cell? ⟨w.heap.size + 1, 8, none⟩ = some (.int .i64 m.term) ∧ w9.cell? ⟨w.heap.size + 1, 9, none⟩ = some (.int .i64 m.index) ∧ w9.cell? ⟨w.heap.size + 1, 10, none⟩ = some (.int .i64 m.lt) ∧ w9.cell? ⟨w.heap.size + 1, 11, none⟩ = some (.int .i64 m.commit) ∧ w9.cell? ⟨w.heap.size + 1, 12, none⟩ = some (.bool m.yes) ∧ w9.cell? ⟨w.heap.size + 1, 13, none⟩ = some (.slice va m.es.length vcap) ∧ w9.cell? ⟨w.heap.size + 1, 14, none⟩ = some (.int .i64 m.si) ∧ w9.cell? ⟨w.heap.size + 1, 15, none⟩ = some (.int .i64 m.st) ∧ w9.cell? ⟨w.heap.size + 1, 16, none⟩ = some (.int .i64 m.sm) ∧ w9.cell? ⟨w.heap.size + 1, 17, none⟩ = some (.string m.sx)) := ⟨HD9.out.b4.cell 0, HD9.out.b4.cell 1, HD9.out.b4.cell 2, HD9.out.b5.cell 1, HD9.out.b5.cell 2, HD9.out.b5.cell 3, HD9.out.b5.cell 4, HD9.out.b5.cell 5, HD9.out.b5.cell 6, HD9.out.b5.cell 7, HD9.out.b5.cell 8, HD9.out.b5.cell 9, HD9.out.b5.cell 10, HD9.out.b5.cell 11, HD9.out.b5.cell 12, HD9.out.b5.cell 13, HD9.out.b5.cell 14, HD9.out.b5.cell 15, HD9.out.b5.cell 16, HD9.out.b5.cell 17⟩
      refine hK.out _ _ (fun _ => SN) ?_
      clear hK K S0
      have S0 := SN
      clear SN
      try simp only [Act.put, List.setIfInBounds_toArray, List.set_cons_zero, List.set_cons_succ]
      refine He.wpE_one (i := 16) (by kernel_rfl) rfl (by rfl) (fun K hK => ?_)
      go_simp
      refine hK.out _ _ (fun h => absurd rfl h) ?_
      clear hK K
      refine He.wpE_done (by kernel_rfl) ?_
      try simp only [Act.put, List.setIfInBounds_toArray, List.set_cons_zero, List.set_cons_succ]
      go_wp2_with fail
      go_meet
      exact ⟨q, .slice ua m.es.length uc, ya, yc, rfl, by rw [hR], by rw [hR], HM9.out, by rw [hR]; exact HY2.out, by rw [hR]; exact HZ2.out⟩
  case rest =>
    obtain ⟨q, u, ya, yc, rfl, rfl, rfl, hmx, hy, hq⟩ := hcut
    have HQ2 := Lib.hid hq
    have HRn := Lib.hid hy
    have HE2 := Lib.hid (HE0.out.mod hmx)
    clear hq hy RFC SC HR0 HE0
    have HN2 := Lib.hid (HN0.out.mod hmx)
    have HD2 := Lib.hid (HD0.out.mod hmx)
    have HP2 := Lib.hid (HP0.out.kp (KpR.mod hmx))
    have HK2 := Lib.hid (HK0.out.trans (KpN.mod hmx))
    clear HN0 HD0 HP0 HK0
    have HR2 := HRn
    clear HRn
    have HNB : Hid (∀ W e W', SendP w0 g ag mb last S n M C a m b W e W' → BothP w0 g ag mb C cl last n (sendR last xs cl a m u b) xs.length W e W') := Lib.hid (fun W e W' h => send_both HLR.out he h)
    generalize sendR last xs cl a m u b = r at *
    have NS := Lib.hid (send_calls w0 wc g ag mb last S n M C HN2.out hlast (by omega) a m (.slice va m.es.length vcap) b HE2.out hen)
    have a0 := HD2.out.b5.cell 0
    have a1 := HD2.out.b5.cell 1
    have a2 := HD2.out.b5.cell 2
    have a3 := HD2.out.b5.cell 3
    have a4 := HD2.out.b5.cell 4
    have a5 := HD2.out.b5.cell 5
    have a6 := HD2.out.b5.cell 6
    have a7 := HD2.out.b5.cell 7
    have a8 := HD2.out.b5.cell 8
    have a9 := HD2.out.b5.cell 9
    have a10 := HD2.out.b5.cell 10
    have a11 := HD2.out.b5.cell 11
    have a12 := HD2.out.b5.cell 12
    have a13 := HD2.out.b5.cell 13
    have a14 := HD2.out.b5.cell 14
    have a15 := HD2.out.b5.cell 15
    have a16 := HD2.out.b5.cell 16
    have a17 := HD2.out.b5.cell 17
    go_wp2_with fail
    (with_reducible refine (NS.out).mono ?_)
    rintro e w4 htp
    obtain ⟨rfl, ⟨S', M', n', hn4, hl4, hn'⟩, hk4, hlr, hlen⟩ := HNB.out _ _ _ htp
    have HL4 := Lib.hid hl4
    clear NS HNB htp hl4 a0 a1 a2 a3 a4 a5 a6 a7 a8 a9 a10 a11 a12 a13 a14 a15 a16 a17
    have HN4 := Lib.hid hn4
    have HD4 := Lib.hid (HD2.out.kp hk4)
    have HR4 := Lib.hid (HR2.out.kp (KpR.net hk4))
    have HP4 := Lib.hid (HP2.out.kp (KpR.net hk4))
    have HK4 := Lib.hid (HK2.out.trans hk4)
    have HQ4 := Lib.hid (hk4 _ _ _ HQ2.out nRN.1 nRN.2.1)
    clear HN2 HD2 HR2 HP2 HK2 HQ2 hn4 hk4
    have n0 := HQ4.out.cell 0
    have n1 := HQ4.out.cell 1
    have n2 := HQ4.out.cell 2
    have z0 := HD4.out.b6.cell 0
    have z1 := HD4.out.b6.cell 1
    have z2 := HD4.out.b6.cell 2
    have fz0 := HD4.out.b6.free 0
    have fz1 := HD4.out.b6.free 1
    have fz2 := HD4.out.b6.free 2
    have HE9 := Lib.hid (set3 HD4.out.b6 (.slice ya r.2.1.length yc) (.int .i64 r.1) (.slice vca cl.length vcc))
    have r0 := HE9.out.cell 0
    have r1 := HE9.out.cell 1
    have r2 := HE9.out.cell 2
    go_wp2_with fail
    refine bodyPost_ret (v := .tuple #[.agg #[.slice ya r.2.1.length yc, .int .i64 r.1, .slice vca cl.length vcc], .bool true]) (by simp [results, Try.results20, go_sem, r0, r1, r2]) rfl ?_
    exact HPD.out _ _ (fin_st (i := i) HN4.out HR4.out HP4.out HL4.out HD4.out.b6 (Nat.le_add_right _ _) hsz HK4.out (by omega) (by omega) (by omega) (by omega) (by omega) _ _ _)
set_option maxHeartbeats 32000000 in
theorem does1_calls {w0 w : World} {g ag mb i : Nat} {vl : Value} {last : Int} {vc : Value} {xs : List Ri} (h : St w0 w g ag mb i vl last vc xs) (hi : i ≤ 1000) (a b c : Int) (off : Bool) (m : Ms) (v : Value) (hx : NaOk w0 ⟨1, a, b, c, off, m, v⟩) (he : m.es.length ≤ 20) :
    Calls Try.prog 20 #[.pointer (some ⟨g, 0, none⟩), rnV vl last vc, .agg (naC ⟨1, a, b, c, off, m, v⟩).toArray] w (DoesP w0 g ag mb i w) := by
  obtain ⟨S, M, C, n, cl, hN, hR, hP, hL, hb0, hb1, hb2, hb3, hb4⟩ := h
  obtain ⟨xa, xb, xc, xe, _, _, _⟩ := hx
  simp only at xa xb xc xe
  unfold in64 at xa xb xc
  have HE := Lib.hid (xe.mod hN.md)
  obtain ⟨va, vcap, hv, _, _⟩ := xe
  subst hv
  obtain ⟨vla, vlc, rfl⟩ := Rw.own_slice hR.own
  obtain ⟨vca, vcc, rfl⟩ := Rw.own_slice hP
  have HPD : Hid (∀ e w', DoesP w0 g ag mb i w e w' → DoesP w0 g ag mb i w e w') := Lib.hid (fun _ _ h => h)
  generalize hDP : DoesP w0 g ag mb i w = DP at HPD ⊢
  replace HPD : Hid (∀ e w', DoesP w0 g ag mb i w e w' → DP e w') := Lib.hid (fun e w' h => by rw [← hDP]; exact h)
  clear hDP
  have hlast : 0 ≤ last ∧ last ≤ 1000000 := by omega
  have HD0 := Lib.hid (Dx.new w #[.slice vla xs.length vlc, .int .i64 last, .slice vca cl.length vcc] #[.int .i64 1, .int .i64 a, .int .i64 b, .int .i64 c, .bool off, .int .i64 m.kind, .int .i64 m.frm, .int .i64 m.dst, .int .i64 m.term, .int .i64 m.index, .int .i64 m.lt, .int .i64 m.commit, .bool m.yes, .slice va m.es.length vcap, .int .i64 m.si, .int .i64 m.st, .int .i64 m.sm, .string m.sx])
  have HM0 := Lib.hid ((((Mod.refl w []).alloc (.cells #[.slice vla xs.length vlc, .int .i64 last, .slice vca cl.length vcc] tRN)).alloc (.cells #[.int .i64 1, .int .i64 a, .int .i64 b, .int .i64 c, .bool off, .int .i64 m.kind, .int .i64 m.frm, .int .i64 m.dst, .int .i64 m.term, .int .i64 m.index, .int .i64 m.lt, .int .i64 m.commit, .bool m.yes, .slice va m.es.length vcap, .int .i64 m.si, .int .i64 m.st, .int .i64 m.sm, .string m.sx] tAct)).alloc (.cells #[.slice none 0 0, .int .i64 0, .slice none 0 0] tRN))
  have HN0 := Lib.hid (hN.mod HM0.out)
  have HR0 := Lib.hid (hR.mod HM0.out)
  have HP0 := Lib.hid (hP.kp (KpR.mod HM0.out))
  have HE0 := Lib.hid (HE.out.mod HM0.out)
  have HLR := Lib.hid hL
  have hcn : cl.length ≤ 100000 := by omega
  have hxn : xs.length ≤ 100000 := by omega
  have hen : m.es.length ≤ 100000 := by omega
  have hsz : w0.heap.size ≤ w.heap.size := hN.md.size
  clear hN hR hP hL HE
  show Calls _ _ #[_, .agg #[.slice vla xs.length vlc, .int .i64 last, .slice vca cl.length vcc], .agg #[.int .i64 1, .int .i64 a, .int .i64 b, .int .i64 c, .bool off, .int .i64 m.kind, .int .i64 m.frm, .int .i64 m.dst, .int .i64 m.term, .int .i64 m.index, .int .i64 m.lt, .int .i64 m.commit, .bool m.yes, .slice va m.es.length vcap, .int .i64 m.si, .int .i64 m.st, .int .i64 m.sm, .string m.sx]] _ _
  go_enter Try.func20, Try.ntmps20
  go_upto_region 1 with (fail)
  generalize ((w.alloc _).alloc _).alloc _ = w1 at *
  have hsz1 : w0.heap.size ≤ w1.heap.size := Nat.le_trans hsz HM0.out.size
  have hw1 : w.heap.size + 2 < w1.heap.size := HD0.out.b6.lt
  have HK0 := Lib.hid (KpN.mod HM0.out)
  have a0 := HD0.out.b5.cell 0
  have a1 := HD0.out.b5.cell 1
  have n0 := HD0.out.b4.cell 0
  have n1 := HD0.out.b4.cell 1
  have n2 := HD0.out.b4.cell 2
  have LC := Lib.hid (rlose_calls w0.heap.size w1 (.slice vla xs.length vlc) vca cl.length vcc last xs a HR0.out hxn)
  go_upto_region 7 with (fail)
  go_wp2_with fail
  (with_reducible refine (LC.out).mono ?_)
  rintro e w2 ⟨hm2, vl', rfl, hr2⟩
  obtain ⟨ya, yc, rfl⟩ := Rw.own_slice hr2.own
  have HRn := Lib.hid (hr2.low hsz1)
  clear LC hr2 n0 n1 n2 a0 a1 HR0
  have hw2 : w1.heap.size ≤ w2.heap.size := hm2.size
  have HN2 := Lib.hid (HN0.out.mod hm2)
  have HD2 := Lib.hid (HD0.out.mod hm2)
  have HP2 := Lib.hid (HP0.out.kp (KpR.mod hm2))
  have HK2 := Lib.hid (HK0.out.trans (KpN.mod hm2))
  clear HN0 HD0 HP0 HK0
  have HR2 := HRn
  clear HRn
  have hloR := loseR_len xs a
  have HLh := Lib.hid (HLR.out.has a)
  have HLl := Lib.hid (HLR.out.lose a)
  generalize hys : loseR xs a = ys at *
  have HLR := HLl
  clear HLl
  generalize decide (ys.length < xs.length) = B at *
  obtain ⟨hq, hmq⟩ := new3 w2 (.slice ya ys.length yc) (.int .i64 last) (.slice vca cl.length vcc)
  have HQ2 := Lib.hid hq
  have HMq := Lib.hid hmq
  clear hq hmq
  go_upto_region 8 with (fail)
  generalize w2.alloc _ = w3 at *
  have HQ3 := HQ2
  clear HQ2
  have HN3 := Lib.hid (HN2.out.mod HMq.out)
  have HD3 := Lib.hid (HD2.out.mod HMq.out)
  have HR3 := Lib.hid (HR2.out.mod HMq.out)
  have HP3 := Lib.hid (HP2.out.kp (KpR.mod HMq.out))
  have HK3 := Lib.hid (HK2.out.trans (KpN.mod HMq.out))
  clear HN2 HD2 HR2 HP2 HK2
  clear HMq
  obtain ⟨q, hq⟩ : ∃ q, w2.heap.size = q := ⟨_, rfl⟩
  rw [hq] at HQ3
  rw [hq]
  have hqb : w.heap.size + 2 < q := by omega
  refine He.wp_region_e 8 (fun w' => (w'.cell? ⟨q, 0, none⟩ = some (.slice ya ys.length yc) ∧ w'.cell? ⟨q, 1, none⟩ = some (.int .i64 last) ∧ w'.cell? ⟨q, 2, none⟩ = some (.slice vca cl.length vcc) ∧ w'.cell? ⟨w.heap.size + 1, 1, none⟩ = some (.int .i64 a))) (by kernel_rfl) ⟨(HQ3.out.mod ((Mod.refl w3 []).drew) (by simp)).cell 0, (HQ3.out.mod ((Mod.refl w3 []).drew) (by simp)).cell 1, (HQ3.out.mod ((Mod.refl w3 []).drew) (by simp)).cell 2, (HD3.out.mod ((Mod.refl w3 []).drew)).b5.cell 1⟩ (fun S0 => ?_)
  have HNd := Lib.hid (HN3.out.mod ((Mod.refl w3 []).drew))
  have HDd := Lib.hid (HD3.out.mod ((Mod.refl w3 []).drew))
  have HRd := Lib.hid (HR3.out.mod ((Mod.refl w3 []).drew))
  have HPd := Lib.hid (HP3.out.kp (KpR.mod ((Mod.refl w3 []).drew)))
  have HKd := Lib.hid (HK3.out.trans (KpN.mod ((Mod.refl w3 []).drew)))
  have HQd := Lib.hid (HQ3.out.mod ((Mod.refl w3 []).drew) (by simp))
  clear HN3 HD3 HR3 HP3 HK3 HQ3
  generalize w3.drew = wd at *
  have LC : Hid (Calls Try.prog 17 #[.pointer (some ⟨g, 0, none⟩), .int .i64 a] wd (fun e w' => e = .returned (.bool B) ∧ NetW w0 w' g ag mb last (woI S a) n (delM M a) C ∧ KpN wd w')) := Lib.hid (by
    have := lose_calls w0 wd g ag mb last S n M C HNd.out a (by omega) (by omega)
    unfold LoseP at this
    rw [HLh.out] at this
    exact this)
  refine He.wpE_take (i := 0) (v := ?_) rfl (by kernel_rfl) (by kernel_rfl) (by kernel_rfl) (by kernel_rfl) (by kernel_rfl) (fun _ _ _ h => h) (by rfl) ?_ (by assumption) ?_
  rotate_left
  · (intro w' hSw; (try dsimp only at hSw); go_simp; first | done | with_reducible rfl)
  try simp only [List.getElem_toArray, List.getElem_cons_succ, List.getElem_cons_zero, Act.put, List.setIfInBounds_toArray, List.set_cons_zero, List.set_cons_succ]
  refine He.wpE_take (i := 1) (v := ?_) rfl (by kernel_rfl) (by kernel_rfl) (by kernel_rfl) (by kernel_rfl) (by kernel_rfl) (fun _ _ _ h => h) (by rfl) ?_ (by assumption) ?_
  rotate_left
  · (intro w' hSw; (try dsimp only at hSw); go_simp; first | done | with_reducible rfl)
  try simp only [List.getElem_toArray, List.getElem_cons_succ, List.getElem_cons_zero, Act.put, List.setIfInBounds_toArray, List.set_cons_zero, List.set_cons_succ]
  refine He.wpE_take (i := 2) (v := ?_) rfl (by kernel_rfl) (by kernel_rfl) (by kernel_rfl) (by kernel_rfl) (by kernel_rfl) (fun _ _ _ h => h) (by rfl) ?_ (by assumption) ?_
  rotate_left
  · (intro w' hSw; (try dsimp only at hSw); go_simp; first | done | with_reducible rfl)
  try simp only [List.getElem_toArray, List.getElem_cons_succ, List.getElem_cons_zero, Act.put, List.setIfInBounds_toArray, List.set_cons_zero, List.set_cons_succ]
  refine He.wpE_take (i := 3) (v := ?_) rfl (by kernel_rfl) (by kernel_rfl) (by kernel_rfl) (by kernel_rfl) (by kernel_rfl) (fun _ _ _ h => h) (by rfl) ?_ (by assumption) ?_
  rotate_left
  · (intro w' hSw; (try dsimp only at hSw); go_simp; first | done | with_reducible rfl)
  try simp only [List.getElem_toArray, List.getElem_cons_succ, List.getElem_cons_zero, Act.put, List.setIfInBounds_toArray, List.set_cons_zero, List.set_cons_succ]
  refine He.wpE_take (i := 5) (v := ?_) rfl (by kernel_rfl) (by kernel_rfl) (by kernel_rfl) (by kernel_rfl) (by kernel_rfl) (fun _ _ _ h => h) (by rfl) ?_ (by assumption) ?_
  rotate_left
  · (intro w' hSw; (try dsimp only at hSw); go_simp; first | done | with_reducible rfl)
  try simp only [List.getElem_toArray, List.getElem_cons_succ, List.getElem_cons_zero, Act.put, List.setIfInBounds_toArray, List.set_cons_zero, List.set_cons_succ]
  refine He.wpE_one (i := 4) (by kernel_rfl) rfl (by rfl) (fun K hK => ?_)
  go_simp
  (with_reducible refine (LC.out).mono ?_)
  rintro e w4 ⟨rfl, hn4, hk4⟩
  clear LC HLh
  have HN4 := Lib.hid hn4
  have HD4 := Lib.hid (HDd.out.kp hk4)
  have HR4 := Lib.hid (HRd.out.kp (KpR.net hk4))
  have HP4 := Lib.hid (HPd.out.kp (KpR.net hk4))
  have HK4 := Lib.hid (HKd.out.trans hk4)
  have HQ4 := Lib.hid (hk4 _ _ _ HQd.out nRN.1 nRN.2.1)
  clear HNd HDd HRd HPd HKd HQd hn4 hk4
  have S4 : (w4.cell? ⟨q, 0, none⟩ = some (.slice ya ys.length yc) ∧ w4.cell? ⟨q, 1, none⟩ = some (.int .i64 last) ∧ w4.cell? ⟨q, 2, none⟩ = some (.slice vca cl.length vcc) ∧ w4.cell? ⟨w.heap.size + 1, 1, none⟩ = some (.int .i64 a)) := ⟨HQ4.out.cell 0, HQ4.out.cell 1, HQ4.out.cell 2, HD4.out.b5.cell 1⟩
  refine hK.out _ _ (fun _ => S4) ?_
  clear hK K S0
  try simp only [Act.put, List.setIfInBounds_toArray, List.set_cons_zero, List.set_cons_succ]
  refine He.wpE_take (i := 6) (v := ?_) rfl (by kernel_rfl) (by kernel_rfl) (by kernel_rfl) (by kernel_rfl) (by kernel_rfl) (fun _ _ _ h => h) (by rfl) ?_ (by assumption) ?_
  rotate_left
  · (intro w' hSw; (try dsimp only at hSw); go_simp; first | done | with_reducible rfl)
  try simp only [List.getElem_toArray, List.getElem_cons_succ, List.getElem_cons_zero, Act.put, List.setIfInBounds_toArray, List.set_cons_zero, List.set_cons_succ]
  refine He.wpE_one (i := 7) (by kernel_rfl) rfl (by rfl) (fun K hK => ?_)
  have z0 := HD4.out.b6.cell 0
  have z1 := HD4.out.b6.cell 1
  have z2 := HD4.out.b6.cell 2
  have fz0 := HD4.out.b6.free 0
  have fz1 := HD4.out.b6.free 1
  have fz2 := HD4.out.b6.free 2
  have HE9 := Lib.hid (set3 HD4.out.b6 (.slice ya ys.length yc) (.int .i64 last) (.slice vca cl.length vcc))
  have r0 := HE9.out.cell 0
  have r1 := HE9.out.cell 1
  have r2 := HE9.out.cell 2
  have HQ5 := Lib.hid (far3 HQ4.out (q := w.heap.size + 2) (by omega) (.slice ya ys.length yc) (.int .i64 last) (.slice vca cl.length vcc))
  have HB5 := Lib.hid (far3 HD4.out.b5 (q := w.heap.size + 2) (by omega) (.slice ya ys.length yc) (.int .i64 last) (.slice vca cl.length vcc))
  have HFI := Lib.hid (fin_st (i := i) HN4.out HR4.out HP4.out HLR.out HD4.out.b6 (Nat.le_add_right _ _) hsz HK4.out (by omega) (by omega) (by omega) (by omega) (by omega) (.slice ya ys.length yc) (.int .i64 last) (.slice vca cl.length vcc))
  go_simp
  clear z0 z1 z2 fz0 fz1 fz2
  generalize World.setCell _ ⟨w.heap.size + 2, 2, none⟩ _ = w5 at *
  have S5 : (w5.cell? ⟨q, 0, none⟩ = some (.slice ya ys.length yc) ∧ w5.cell? ⟨q, 1, none⟩ = some (.int .i64 last) ∧ w5.cell? ⟨q, 2, none⟩ = some (.slice vca cl.length vcc) ∧ w5.cell? ⟨w.heap.size + 1, 1, none⟩ = some (.int .i64 a)) := ⟨HQ5.out.cell 0, HQ5.out.cell 1, HQ5.out.cell 2, HB5.out.cell 1⟩
  refine hK.out _ _ (fun _ => S5) ?_
  clear hK K
  try simp only [Act.put, List.setIfInBounds_toArray, List.set_cons_zero, List.set_cons_succ]
  refine He.wpE_one (i := 8) (by kernel_rfl) rfl (by rfl) (fun K hK => ?_)
  go_simp
  refine hK.out _ _ (fun h => absurd rfl h) ?_
  clear hK K
  refine He.wpE_done (by kernel_rfl) ?_
  try simp only [Act.put, List.setIfInBounds_toArray, List.set_cons_zero, List.set_cons_succ]
  go_wp2_with fail
  refine bodyPost_ret (v := .tuple #[.agg #[.slice ya ys.length yc, .int .i64 last, .slice vca cl.length vcc], .bool true]) (by simp [results, Try.results20, go_sem, r0, r1, r2]) rfl ?_
  exact HPD.out _ _ (HFI.out)
set_option maxHeartbeats 32000000 in
theorem does2_calls {w0 w : World} {g ag mb i : Nat} {vl : Value} {last : Int} {vc : Value} {xs : List Ri} (h : St w0 w g ag mb i vl last vc xs) (hi : i ≤ 1000) (a b c : Int) (off : Bool) (m : Ms) (v : Value) (hx : NaOk w0 ⟨2, a, b, c, off, m, v⟩) (he : m.es.length ≤ 20) :
    Calls Try.prog 20 #[.pointer (some ⟨g, 0, none⟩), rnV vl last vc, .agg (naC ⟨2, a, b, c, off, m, v⟩).toArray] w (DoesP w0 g ag mb i w) := by
  obtain ⟨S, M, C, n, cl, hN, hR, hP, hL, hb0, hb1, hb2, hb3, hb4⟩ := h
  obtain ⟨xa, xb, xc, xe, _, _, _⟩ := hx
  simp only at xa xb xc xe
  unfold in64 at xa xb xc
  have HE := Lib.hid (xe.mod hN.md)
  obtain ⟨va, vcap, hv, _, _⟩ := xe
  subst hv
  obtain ⟨vla, vlc, rfl⟩ := Rw.own_slice hR.own
  obtain ⟨vca, vcc, rfl⟩ := Rw.own_slice hP
  have HPD : Hid (∀ e w', DoesP w0 g ag mb i w e w' → DoesP w0 g ag mb i w e w') := Lib.hid (fun _ _ h => h)
  generalize hDP : DoesP w0 g ag mb i w = DP at HPD ⊢
  replace HPD : Hid (∀ e w', DoesP w0 g ag mb i w e w' → DP e w') := Lib.hid (fun e w' h => by rw [← hDP]; exact h)
  clear hDP
  have hlast : 0 ≤ last ∧ last ≤ 1000000 := by omega
  have HD0 := Lib.hid (Dx.new w #[.slice vla xs.length vlc, .int .i64 last, .slice vca cl.length vcc] #[.int .i64 2, .int .i64 a, .int .i64 b, .int .i64 c, .bool off, .int .i64 m.kind, .int .i64 m.frm, .int .i64 m.dst, .int .i64 m.term, .int .i64 m.index, .int .i64 m.lt, .int .i64 m.commit, .bool m.yes, .slice va m.es.length vcap, .int .i64 m.si, .int .i64 m.st, .int .i64 m.sm, .string m.sx])
  have HM0 := Lib.hid ((((Mod.refl w []).alloc (.cells #[.slice vla xs.length vlc, .int .i64 last, .slice vca cl.length vcc] tRN)).alloc (.cells #[.int .i64 2, .int .i64 a, .int .i64 b, .int .i64 c, .bool off, .int .i64 m.kind, .int .i64 m.frm, .int .i64 m.dst, .int .i64 m.term, .int .i64 m.index, .int .i64 m.lt, .int .i64 m.commit, .bool m.yes, .slice va m.es.length vcap, .int .i64 m.si, .int .i64 m.st, .int .i64 m.sm, .string m.sx] tAct)).alloc (.cells #[.slice none 0 0, .int .i64 0, .slice none 0 0] tRN))
  have HN0 := Lib.hid (hN.mod HM0.out)
  have HR0 := Lib.hid (hR.mod HM0.out)
  have HP0 := Lib.hid (hP.kp (KpR.mod HM0.out))
  have HE0 := Lib.hid (HE.out.mod HM0.out)
  have HLR := Lib.hid hL
  have hcn : cl.length ≤ 100000 := by omega
  have hxn : xs.length ≤ 100000 := by omega
  have hen : m.es.length ≤ 100000 := by omega
  have hsz : w0.heap.size ≤ w.heap.size := hN.md.size
  clear hN hR hP hL HE
  show Calls _ _ #[_, .agg #[.slice vla xs.length vlc, .int .i64 last, .slice vca cl.length vcc], .agg #[.int .i64 2, .int .i64 a, .int .i64 b, .int .i64 c, .bool off, .int .i64 m.kind, .int .i64 m.frm, .int .i64 m.dst, .int .i64 m.term, .int .i64 m.index, .int .i64 m.lt, .int .i64 m.commit, .bool m.yes, .slice va m.es.length vcap, .int .i64 m.si, .int .i64 m.st, .int .i64 m.sm, .string m.sx]] _ _
  go_enter Try.func20, Try.ntmps20
  go_upto_region 1 with (fail)
  generalize ((w.alloc _).alloc _).alloc _ = w1 at *
  have hsz1 : w0.heap.size ≤ w1.heap.size := Nat.le_trans hsz HM0.out.size
  have hw1 : w.heap.size + 2 < w1.heap.size := HD0.out.b6.lt
  have HK0 := Lib.hid (KpN.mod HM0.out)
  have a0 := HD0.out.b5.cell 0
  have a1 := HD0.out.b5.cell 1
  have a2 := HD0.out.b5.cell 2
  have a3 := HD0.out.b5.cell 3
  have n0 := HD0.out.b4.cell 0
  have n1 := HD0.out.b4.cell 1
  have n2 := HD0.out.b4.cell 2
  have TC := Lib.hid (rtwice_calls w0.heap.size w1 (.slice vla xs.length vlc) (.slice vca cl.length vcc) last xs cl a b c HR0.out hsz1 HP0.out.v hcn hxn hlast (fun x hx => Nat.le_trans (HLR.out.es x hx) (by omega)))
  have HNB : Hid (∀ W e W', TwiceP w0 g ag mb last S n M C a b c W e W' → BothP w0 g ag mb C cl last n (twiceR last xs cl a b c) xs.length W e W') := Lib.hid (fun W e W' h => twice_both HLR.out HN0.out.ids h)
  generalize twiceR last xs cl a b c = r at *
  go_upto_region 10 with (fail)
  go_wp2_with fail
  (with_reducible refine (TC.out).mono ?_)
  rintro e w2 ⟨hm2, vl', rfl, hr2⟩
  obtain ⟨ya, yc, rfl⟩ := Rw.own_slice hr2.own
  have HRn := Lib.hid hr2
  clear TC hr2 n0 n1 n2 a0 a1 a2 a3 HR0
  have hw2 : w1.heap.size ≤ w2.heap.size := hm2.size
  have HN2 := Lib.hid (HN0.out.mod hm2)
  have HD2 := Lib.hid (HD0.out.mod hm2)
  have HP2 := Lib.hid (HP0.out.kp (KpR.mod hm2))
  have HK2 := Lib.hid (HK0.out.trans (KpN.mod hm2))
  clear HN0 HD0 HP0 HK0
  have HR2 := HRn
  clear HRn
  obtain ⟨hq, hmq⟩ := new3 w2 (.slice ya r.2.1.length yc) (.int .i64 r.1) (.slice vca cl.length vcc)
  have HQ2 := Lib.hid hq
  have HMq := Lib.hid hmq
  clear hq hmq
  go_upto_region 11 with (fail)
  generalize w2.alloc _ = w3 at *
  have HQ3 := HQ2
  clear HQ2
  have HN3 := Lib.hid (HN2.out.mod HMq.out)
  have HD3 := Lib.hid (HD2.out.mod HMq.out)
  have HR3 := Lib.hid (HR2.out.mod HMq.out)
  have HP3 := Lib.hid (HP2.out.kp (KpR.mod HMq.out))
  have HK3 := Lib.hid (HK2.out.trans (KpN.mod HMq.out))
  clear HN2 HD2 HR2 HP2 HK2
  clear HMq
  have TW := Lib.hid (twice_calls w0 w3 g ag mb last S n M C HN3.out hlast (by omega) a (by omega) (by omega) b c)
  have a0 := HD3.out.b5.cell 0
  have a1 := HD3.out.b5.cell 1
  have a2 := HD3.out.b5.cell 2
  have a3 := HD3.out.b5.cell 3
  go_wp2_with fail
  (with_reducible refine (TW.out).mono ?_)
  rintro e w4 htp
  obtain ⟨rfl, ⟨S', M', n', hn4, hl4, hn'⟩, hk4, hlr, hlen⟩ := HNB.out _ _ _ htp
  have HL4 := Lib.hid hl4
  clear TW HNB htp hl4 a0 a1 a2 a3
  have HN4 := Lib.hid hn4
  have HD4 := Lib.hid (HD3.out.kp hk4)
  have HR4 := Lib.hid (HR3.out.kp (KpR.net hk4))
  have HP4 := Lib.hid (HP3.out.kp (KpR.net hk4))
  have HK4 := Lib.hid (HK3.out.trans hk4)
  have HQ4 := Lib.hid (hk4 _ _ _ HQ3.out nRN.1 nRN.2.1)
  clear HN3 HD3 HR3 HP3 HK3 HQ3 hn4 hk4
  have n0 := HQ4.out.cell 0
  have n1 := HQ4.out.cell 1
  have n2 := HQ4.out.cell 2
  have z0 := HD4.out.b6.cell 0
  have z1 := HD4.out.b6.cell 1
  have z2 := HD4.out.b6.cell 2
  have fz0 := HD4.out.b6.free 0
  have fz1 := HD4.out.b6.free 1
  have fz2 := HD4.out.b6.free 2
  have HE9 := Lib.hid (set3 HD4.out.b6 (.slice ya r.2.1.length yc) (.int .i64 r.1) (.slice vca cl.length vcc))
  have r0 := HE9.out.cell 0
  have r1 := HE9.out.cell 1
  have r2 := HE9.out.cell 2
  go_wp2_with fail
  refine bodyPost_ret (v := .tuple #[.agg #[.slice ya r.2.1.length yc, .int .i64 r.1, .slice vca cl.length vcc], .bool true]) (by simp [results, Try.results20, go_sem, r0, r1, r2]) rfl ?_
  exact HPD.out _ _ (fin_st (i := i) HN4.out HR4.out HP4.out HL4.out HD4.out.b6 (Nat.le_add_right _ _) hsz HK4.out (by omega) (by omega) (by omega) (by omega) (by omega) _ _ _)
set_option maxHeartbeats 32000000 in
theorem does3_calls {w0 w : World} {g ag mb i : Nat} {vl : Value} {last : Int} {vc : Value} {xs : List Ri} (h : St w0 w g ag mb i vl last vc xs) (hi : i ≤ 1000) (a b c : Int) (off : Bool) (m : Ms) (v : Value) (hx : NaOk w0 ⟨3, a, b, c, off, m, v⟩) (he : m.es.length ≤ 20) :
    Calls Try.prog 20 #[.pointer (some ⟨g, 0, none⟩), rnV vl last vc, .agg (naC ⟨3, a, b, c, off, m, v⟩).toArray] w (DoesP w0 g ag mb i w) := by
  obtain ⟨S, M, C, n, cl, hN, hR, hP, hL, hb0, hb1, hb2, hb3, hb4⟩ := h
  obtain ⟨xa, xb, xc, xe, _, _, _⟩ := hx
  simp only at xa xb xc xe
  unfold in64 at xa xb xc
  have HE := Lib.hid (xe.mod hN.md)
  obtain ⟨va, vcap, hv, _, _⟩ := xe
  subst hv
  obtain ⟨vla, vlc, rfl⟩ := Rw.own_slice hR.own
  obtain ⟨vca, vcc, rfl⟩ := Rw.own_slice hP
  have HPD : Hid (∀ e w', DoesP w0 g ag mb i w e w' → DoesP w0 g ag mb i w e w') := Lib.hid (fun _ _ h => h)
  generalize hDP : DoesP w0 g ag mb i w = DP at HPD ⊢
  replace HPD : Hid (∀ e w', DoesP w0 g ag mb i w e w' → DP e w') := Lib.hid (fun e w' h => by rw [← hDP]; exact h)
  clear hDP
  have hlast : 0 ≤ last ∧ last ≤ 1000000 := by omega
  have HD0 := Lib.hid (Dx.new w #[.slice vla xs.length vlc, .int .i64 last, .slice vca cl.length vcc] #[.int .i64 3, .int .i64 a, .int .i64 b, .int .i64 c, .bool off, .int .i64 m.kind, .int .i64 m.frm, .int .i64 m.dst, .int .i64 m.term, .int .i64 m.index, .int .i64 m.lt, .int .i64 m.commit, .bool m.yes, .slice va m.es.length vcap, .int .i64 m.si, .int .i64 m.st, .int .i64 m.sm, .string m.sx])
  have HM0 := Lib.hid ((((Mod.refl w []).alloc (.cells #[.slice vla xs.length vlc, .int .i64 last, .slice vca cl.length vcc] tRN)).alloc (.cells #[.int .i64 3, .int .i64 a, .int .i64 b, .int .i64 c, .bool off, .int .i64 m.kind, .int .i64 m.frm, .int .i64 m.dst, .int .i64 m.term, .int .i64 m.index, .int .i64 m.lt, .int .i64 m.commit, .bool m.yes, .slice va m.es.length vcap, .int .i64 m.si, .int .i64 m.st, .int .i64 m.sm, .string m.sx] tAct)).alloc (.cells #[.slice none 0 0, .int .i64 0, .slice none 0 0] tRN))
  have HN0 := Lib.hid (hN.mod HM0.out)
  have HR0 := Lib.hid (hR.mod HM0.out)
  have HP0 := Lib.hid (hP.kp (KpR.mod HM0.out))
  have HE0 := Lib.hid (HE.out.mod HM0.out)
  have HLR := Lib.hid hL
  have hcn : cl.length ≤ 100000 := by omega
  have hxn : xs.length ≤ 100000 := by omega
  have hen : m.es.length ≤ 100000 := by omega
  have hsz : w0.heap.size ≤ w.heap.size := hN.md.size
  clear hN hR hP hL HE
  show Calls _ _ #[_, .agg #[.slice vla xs.length vlc, .int .i64 last, .slice vca cl.length vcc], .agg #[.int .i64 3, .int .i64 a, .int .i64 b, .int .i64 c, .bool off, .int .i64 m.kind, .int .i64 m.frm, .int .i64 m.dst, .int .i64 m.term, .int .i64 m.index, .int .i64 m.lt, .int .i64 m.commit, .bool m.yes, .slice va m.es.length vcap, .int .i64 m.si, .int .i64 m.st, .int .i64 m.sm, .string m.sx]] _ _
  go_enter Try.func20, Try.ntmps20
  go_upto_region 1 with (fail)
  generalize ((w.alloc _).alloc _).alloc _ = w1 at *
  have hsz1 : w0.heap.size ≤ w1.heap.size := Nat.le_trans hsz HM0.out.size
  have hw1 : w.heap.size + 2 < w1.heap.size := HD0.out.b6.lt
  have HK0 := Lib.hid (KpN.mod HM0.out)
  have a0 := HD0.out.b5.cell 0
  have a1 := HD0.out.b5.cell 1
  have a2 := HD0.out.b5.cell 2
  have a3 := HD0.out.b5.cell 3
  have a4 := HD0.out.b5.cell 4
  have a5 := HD0.out.b5.cell 5
  have a6 := HD0.out.b5.cell 6
  have a7 := HD0.out.b5.cell 7
  have a8 := HD0.out.b5.cell 8
  have a9 := HD0.out.b5.cell 9
  have a10 := HD0.out.b5.cell 10
  have a11 := HD0.out.b5.cell 11
  have a12 := HD0.out.b5.cell 12
  have a13 := HD0.out.b5.cell 13
  have a14 := HD0.out.b5.cell 14
  have a15 := HD0.out.b5.cell 15
  have a16 := HD0.out.b5.cell 16
  have a17 := HD0.out.b5.cell 17
  go_upto_region 14 with (fail)
  have CC := Lib.hid (cut_calls w0 w1 g ag mb last S n M C HN0.out a b off)
  go_wp2_with fail
  (with_reducible refine (CC.out).mono ?_)
  rintro e w2 ⟨rfl, hn2, hk2⟩
  have HSZ2 : w0.heap.size ≤ w2.heap.size := hn2.md.size
  clear CC a0 a1 a2 a3 a4 a5 a6 a7 a8 a9 a10 a11 a12 a13 a14 a15 a16 a17
  have HN2 := Lib.hid hn2
  have HD2 := Lib.hid (HD0.out.kp hk2)
  have HR2 := Lib.hid (HR0.out.kp (KpR.net hk2))
  have HP2 := Lib.hid (HP0.out.kp (KpR.net hk2))
  have HK2 := Lib.hid (HK0.out.trans hk2)
  clear HN0 HD0 HR0 HP0 HK0 hn2 hk2
  have a0 := HD2.out.b5.cell 0
  have a1 := HD2.out.b5.cell 1
  have a2 := HD2.out.b5.cell 2
  have a3 := HD2.out.b5.cell 3
  have a4 := HD2.out.b5.cell 4
  have a5 := HD2.out.b5.cell 5
  have a6 := HD2.out.b5.cell 6
  have a7 := HD2.out.b5.cell 7
  have a8 := HD2.out.b5.cell 8
  have a9 := HD2.out.b5.cell 9
  have a10 := HD2.out.b5.cell 10
  have a11 := HD2.out.b5.cell 11
  have a12 := HD2.out.b5.cell 12
  have a13 := HD2.out.b5.cell 13
  have a14 := HD2.out.b5.cell 14
  have a15 := HD2.out.b5.cell 15
  have a16 := HD2.out.b5.cell 16
  have a17 := HD2.out.b5.cell 17
  have n0 := HD2.out.b4.cell 0
  have n1 := HD2.out.b4.cell 1
  have n2 := HD2.out.b4.cell 2
  have TC := Lib.hid (rturn_calls w0.heap.size w2 vla xs.length vlc (.slice vca cl.length vcc) last cl a b off HP2.out HSZ2 hcn)
  go_wp2_with fail
  (with_reducible refine (TC.out).mono ?_)
  rintro e w3 ⟨hm3, vc', rfl, hp3⟩
  obtain ⟨pa, pc, rfl⟩ := Rw.own_slice hp3
  have HPn := Lib.hid hp3
  clear TC n0 n1 n2 a0 a1 a2 a3 a4 a5 a6 a7 a8 a9 a10 a11 a12 a13 a14 a15 a16 a17
  have HN3 := Lib.hid (HN2.out.mod hm3)
  have HD3 := Lib.hid (HD2.out.mod hm3)
  have HR3 := Lib.hid (HR2.out.mod hm3)
  have HP3 := Lib.hid (HP2.out.kp (KpR.mod hm3))
  have HK3 := Lib.hid (HK2.out.trans (KpN.mod hm3))
  clear HN2 HD2 HR2 HP2 HK2
  clear HP3
  have HP3 := HPn
  have hcl := turn_len cl a b off
  have z0 := HD3.out.b6.cell 0
  have z1 := HD3.out.b6.cell 1
  have z2 := HD3.out.b6.cell 2
  have fz0 := HD3.out.b6.free 0
  have fz1 := HD3.out.b6.free 1
  have fz2 := HD3.out.b6.free 2
  have HE9 := Lib.hid (set3 HD3.out.b6 (.slice vla xs.length vlc) (.int .i64 last) (.slice pa (turnR cl a b off).length pc))
  have r0 := HE9.out.cell 0
  have r1 := HE9.out.cell 1
  have r2 := HE9.out.cell 2
  go_wp2_with fail
  refine bodyPost_ret (v := .tuple #[.agg #[.slice vla xs.length vlc, .int .i64 last, .slice pa (turnR cl a b off).length pc], .bool true]) (by simp [results, Try.results20, go_sem, r0, r1, r2]) rfl ?_
  exact HPD.out _ _ (fin_st (i := i) HN3.out HR3.out HP3.out (HLR.out.turn a b off) HD3.out.b6 (Nat.le_add_right _ _) hsz HK3.out (by omega) (by omega) (by omega) (by omega) (by omega) _ _ _)
set_option maxHeartbeats 32000000 in
theorem does4_calls {w0 w : World} {g ag mb i : Nat} {vl : Value} {last : Int} {vc : Value} {xs : List Ri} (h : St w0 w g ag mb i vl last vc xs) (hi : i ≤ 1000) (a b c : Int) (off : Bool) (m : Ms) (v : Value) (hx : NaOk w0 ⟨4, a, b, c, off, m, v⟩) (he : m.es.length ≤ 20) :
    Calls Try.prog 20 #[.pointer (some ⟨g, 0, none⟩), rnV vl last vc, .agg (naC ⟨4, a, b, c, off, m, v⟩).toArray] w (DoesP w0 g ag mb i w) := by
  obtain ⟨S, M, C, n, cl, hN, hR, hP, hL, hb0, hb1, hb2, hb3, hb4⟩ := h
  obtain ⟨xa, xb, xc, xe, _, _, _⟩ := hx
  simp only at xa xb xc xe
  unfold in64 at xa xb xc
  have HE := Lib.hid (xe.mod hN.md)
  obtain ⟨va, vcap, hv, _, _⟩ := xe
  subst hv
  obtain ⟨vla, vlc, rfl⟩ := Rw.own_slice hR.own
  obtain ⟨vca, vcc, rfl⟩ := Rw.own_slice hP
  have HPD : Hid (∀ e w', DoesP w0 g ag mb i w e w' → DoesP w0 g ag mb i w e w') := Lib.hid (fun _ _ h => h)
  generalize hDP : DoesP w0 g ag mb i w = DP at HPD ⊢
  replace HPD : Hid (∀ e w', DoesP w0 g ag mb i w e w' → DP e w') := Lib.hid (fun e w' h => by rw [← hDP]; exact h)
  clear hDP
  have hlast : 0 ≤ last ∧ last ≤ 1000000 := by omega
  have HD0 := Lib.hid (Dx.new w #[.slice vla xs.length vlc, .int .i64 last, .slice vca cl.length vcc] #[.int .i64 4, .int .i64 a, .int .i64 b, .int .i64 c, .bool off, .int .i64 m.kind, .int .i64 m.frm, .int .i64 m.dst, .int .i64 m.term, .int .i64 m.index, .int .i64 m.lt, .int .i64 m.commit, .bool m.yes, .slice va m.es.length vcap, .int .i64 m.si, .int .i64 m.st, .int .i64 m.sm, .string m.sx])
  have HM0 := Lib.hid ((((Mod.refl w []).alloc (.cells #[.slice vla xs.length vlc, .int .i64 last, .slice vca cl.length vcc] tRN)).alloc (.cells #[.int .i64 4, .int .i64 a, .int .i64 b, .int .i64 c, .bool off, .int .i64 m.kind, .int .i64 m.frm, .int .i64 m.dst, .int .i64 m.term, .int .i64 m.index, .int .i64 m.lt, .int .i64 m.commit, .bool m.yes, .slice va m.es.length vcap, .int .i64 m.si, .int .i64 m.st, .int .i64 m.sm, .string m.sx] tAct)).alloc (.cells #[.slice none 0 0, .int .i64 0, .slice none 0 0] tRN))
  have HN0 := Lib.hid (hN.mod HM0.out)
  have HR0 := Lib.hid (hR.mod HM0.out)
  have HP0 := Lib.hid (hP.kp (KpR.mod HM0.out))
  have HE0 := Lib.hid (HE.out.mod HM0.out)
  have HLR := Lib.hid hL
  have hcn : cl.length ≤ 100000 := by omega
  have hxn : xs.length ≤ 100000 := by omega
  have hen : m.es.length ≤ 100000 := by omega
  have hsz : w0.heap.size ≤ w.heap.size := hN.md.size
  clear hN hR hP hL HE
  show Calls _ _ #[_, .agg #[.slice vla xs.length vlc, .int .i64 last, .slice vca cl.length vcc], .agg #[.int .i64 4, .int .i64 a, .int .i64 b, .int .i64 c, .bool off, .int .i64 m.kind, .int .i64 m.frm, .int .i64 m.dst, .int .i64 m.term, .int .i64 m.index, .int .i64 m.lt, .int .i64 m.commit, .bool m.yes, .slice va m.es.length vcap, .int .i64 m.si, .int .i64 m.st, .int .i64 m.sm, .string m.sx]] _ _
  go_enter Try.func20, Try.ntmps20
  go_upto_region 1 with (fail)
  generalize ((w.alloc _).alloc _).alloc _ = w1 at *
  have hsz1 : w0.heap.size ≤ w1.heap.size := Nat.le_trans hsz HM0.out.size
  have hw1 : w.heap.size + 2 < w1.heap.size := HD0.out.b6.lt
  have HK0 := Lib.hid (KpN.mod HM0.out)
  have a0 := HD0.out.b5.cell 0
  have a1 := HD0.out.b5.cell 1
  have n0 := HD0.out.b4.cell 0
  have n1 := HD0.out.b4.cell 1
  have n2 := HD0.out.b4.cell 2
  have DC := Lib.hid (rdue_calls w0.heap.size w1 (.slice vla xs.length vlc) (.slice vca cl.length vcc) last xs cl a HR0.out HP0.out.v hcn hxn HLR.out.ids)
  go_upto_region 17 with (fail)
  go_wp2_with fail
  (with_reducible refine (DC.out).mono ?_)
  rintro e w2 ⟨hm2, vl', vo, cs, rfl, hr2, hq2, hcs⟩
  obtain ⟨ya, yc, rfl⟩ := Rw.own_slice hr2.own
  obtain ⟨oa, oc, rfl⟩ := Rw.own_slice hq2.own
  have HRn := Lib.hid (hr2.low hsz1)
  have HO2 := Lib.hid hq2
  clear DC hr2 hq2 n0 n1 n2 a0 a1 HR0
  have hw2 : w1.heap.size ≤ w2.heap.size := hm2.size
  have HN2 := Lib.hid (HN0.out.mod hm2)
  have HD2 := Lib.hid (HD0.out.mod hm2)
  have HP2 := Lib.hid (HP0.out.kp (KpR.mod hm2))
  have HK2 := Lib.hid (HK0.out.trans (KpN.mod hm2))
  clear HN0 HD0 HP0 HK0
  have HR2 := HRn
  clear HRn
  have hloR : (leftF xs a).length ≤ xs.length := List.length_filter_le _ _
  have HL4 := Lib.hid (HLR.out.left HN2.out.agw.ok a)
  have HOU := Lib.hid (HLR.out.out HN2.out.ok HN2.out.agw.ok a hcs)
  have HOL : Hid ((outR cl cs).length ≤ 1000) := Lib.hid (by
    have h1 := outR_len cl cs
    have h2 : cs.length ≤ xs.length := by rw [hcs.perm.length_eq]; exact List.length_filter_le _ _
    omega)
  have HOE : Hid (∀ y ∈ (outR cl cs).map Prod.fst, y.es.length ≤ 20) := Lib.hid (fun y hy => by
    obtain ⟨p, hp, rfl⟩ := List.mem_map.1 hy
    unfold outR at hp
    obtain ⟨x, hx, rfl⟩ := List.mem_map.1 hp
    exact HLR.out.es x (List.mem_filter.1 (hcs.perm.mem_iff.1 (List.mem_filter.1 hx).1)).1)
  clear hcs
  generalize hys : leftF xs a = ys at *
  generalize outR cl cs = os at *
  obtain ⟨hq, hmq⟩ := new3 w2 (.slice ya ys.length yc) (.int .i64 last) (.slice vca cl.length vcc)
  have HQ2 := Lib.hid hq
  have HMq := Lib.hid hmq
  clear hq hmq
  go_upto_region 18 with (fail)
  generalize w2.alloc _ = w3 at *
  have HQ3 := HQ2
  clear HQ2
  have HO3 := Lib.hid (HO2.out.kp (KpR.mod HMq.out))
  clear HO2
  have HN3 := Lib.hid (HN2.out.mod HMq.out)
  have HD3 := Lib.hid (HD2.out.mod HMq.out)
  have HR3 := Lib.hid (HR2.out.mod HMq.out)
  have HP3 := Lib.hid (HP2.out.kp (KpR.mod HMq.out))
  have HK3 := Lib.hid (HK2.out.trans (KpN.mod HMq.out))
  clear HN2 HD2 HR2 HP2 HK2
  clear HMq
  obtain ⟨q, hq⟩ : ∃ q, w2.heap.size = q := ⟨_, rfl⟩
  rw [hq] at HQ3
  rw [hq]
  have hqb : w.heap.size + 2 < q := by omega
  refine He.wp_region_e 8 (fun w' => (w'.cell? ⟨q, 0, none⟩ = some (.slice ya ys.length yc) ∧ w'.cell? ⟨q, 1, none⟩ = some (.int .i64 last) ∧ w'.cell? ⟨q, 2, none⟩ = some (.slice vca cl.length vcc) ∧ w'.cell? ⟨w.heap.size + 1, 1, none⟩ = some (.int .i64 a))) (by kernel_rfl) ⟨(HQ3.out.mod ((Mod.refl w3 []).drew) (by simp)).cell 0, (HQ3.out.mod ((Mod.refl w3 []).drew) (by simp)).cell 1, (HQ3.out.mod ((Mod.refl w3 []).drew) (by simp)).cell 2, (HD3.out.mod ((Mod.refl w3 []).drew)).b5.cell 1⟩ (fun S0 => ?_)
  have HOd := Lib.hid (HO3.out.kp (KpR.mod ((Mod.refl w3 []).drew)))
  clear HO3
  have HNd := Lib.hid (HN3.out.mod ((Mod.refl w3 []).drew))
  have HDd := Lib.hid (HD3.out.mod ((Mod.refl w3 []).drew))
  have HRd := Lib.hid (HR3.out.mod ((Mod.refl w3 []).drew))
  have HPd := Lib.hid (HP3.out.kp (KpR.mod ((Mod.refl w3 []).drew)))
  have HKd := Lib.hid (HK3.out.trans (KpN.mod ((Mod.refl w3 []).drew)))
  have HQd := Lib.hid (HQ3.out.mod ((Mod.refl w3 []).drew) (by simp))
  clear HN3 HD3 HR3 HP3 HK3 HQ3
  generalize w3.drew = wd at *
  have DC := Lib.hid (due_calls w0 wd g ag mb last S n M C HNd.out hlast a)
  refine He.wpE_take (i := 0) (v := ?_) rfl (by kernel_rfl) (by kernel_rfl) (by kernel_rfl) (by kernel_rfl) (by kernel_rfl) (fun _ _ _ h => h) (by rfl) ?_ (by assumption) ?_
  rotate_left
  · (intro w' hSw; (try dsimp only at hSw); go_simp; first | done | with_reducible rfl)
  try simp only [List.getElem_toArray, List.getElem_cons_succ, List.getElem_cons_zero, Act.put, List.setIfInBounds_toArray, List.set_cons_zero, List.set_cons_succ]
  refine He.wpE_take (i := 1) (v := ?_) rfl (by kernel_rfl) (by kernel_rfl) (by kernel_rfl) (by kernel_rfl) (by kernel_rfl) (fun _ _ _ h => h) (by rfl) ?_ (by assumption) ?_
  rotate_left
  · (intro w' hSw; (try dsimp only at hSw); go_simp; first | done | with_reducible rfl)
  try simp only [List.getElem_toArray, List.getElem_cons_succ, List.getElem_cons_zero, Act.put, List.setIfInBounds_toArray, List.set_cons_zero, List.set_cons_succ]
  refine He.wpE_take (i := 2) (v := ?_) rfl (by kernel_rfl) (by kernel_rfl) (by kernel_rfl) (by kernel_rfl) (by kernel_rfl) (fun _ _ _ h => h) (by rfl) ?_ (by assumption) ?_
  rotate_left
  · (intro w' hSw; (try dsimp only at hSw); go_simp; first | done | with_reducible rfl)
  try simp only [List.getElem_toArray, List.getElem_cons_succ, List.getElem_cons_zero, Act.put, List.setIfInBounds_toArray, List.set_cons_zero, List.set_cons_succ]
  refine He.wpE_take (i := 3) (v := ?_) rfl (by kernel_rfl) (by kernel_rfl) (by kernel_rfl) (by kernel_rfl) (by kernel_rfl) (fun _ _ _ h => h) (by rfl) ?_ (by assumption) ?_
  rotate_left
  · (intro w' hSw; (try dsimp only at hSw); go_simp; first | done | with_reducible rfl)
  try simp only [List.getElem_toArray, List.getElem_cons_succ, List.getElem_cons_zero, Act.put, List.setIfInBounds_toArray, List.set_cons_zero, List.set_cons_succ]
  refine He.wpE_take (i := 5) (v := ?_) rfl (by kernel_rfl) (by kernel_rfl) (by kernel_rfl) (by kernel_rfl) (by kernel_rfl) (fun _ _ _ h => h) (by rfl) ?_ (by assumption) ?_
  rotate_left
  · (intro w' hSw; (try dsimp only at hSw); go_simp; first | done | with_reducible rfl)
  try simp only [List.getElem_toArray, List.getElem_cons_succ, List.getElem_cons_zero, Act.put, List.setIfInBounds_toArray, List.set_cons_zero, List.set_cons_succ]
  refine He.wpE_one (i := 4) (by kernel_rfl) rfl (by rfl) (fun K hK => ?_)
  go_simp
  (with_reducible refine (DC.out).mono ?_)
  rintro e w4 ⟨vo', zs, rfl, hn4, hk4, hou, hzs⟩
  clear DC
  have HO4 := Lib.hid (HOd.out.kp (KpR.net hk4))
  clear HOd
  have HOW := Lib.hid hou
  have hze : zs.map Prod.fst = os.map Prod.fst := hzs.trans HOU.out
  have hzl : zs.length ≤ 100000 := by
    have := congrArg List.length hze
    simp only [List.length_map] at this
    have := HOL.out
    omega
  have HZE : Hid (∀ x ∈ zs, x.1.es.length ≤ 100000) := Lib.hid (fun x hx => Nat.le_trans (HOE.out _ (by rw [← hze]; exact List.mem_map.2 ⟨x, hx, rfl⟩)) (by omega))
  have SC := Lib.hid (same_calls _ _ vo' (.slice oa os.length oc) zs os w4 HOW.out HO4.out hze hzl HZE.out)
  obtain ⟨za, zc', rfl⟩ := Rw.own_slice hou.own
  clear hou hzs hze HZE HOE HOU HOL HOW HO4
  have HN4 := Lib.hid hn4
  have HD4 := Lib.hid (HDd.out.kp hk4)
  have HR4 := Lib.hid (HRd.out.kp (KpR.net hk4))
  have HP4 := Lib.hid (HPd.out.kp (KpR.net hk4))
  have HK4 := Lib.hid (HKd.out.trans hk4)
  have HQ4 := Lib.hid (hk4 _ _ _ HQd.out nRN.1 nRN.2.1)
  clear HNd HDd HRd HPd HKd HQd hn4 hk4
  have S4 : (w4.cell? ⟨q, 0, none⟩ = some (.slice ya ys.length yc) ∧ w4.cell? ⟨q, 1, none⟩ = some (.int .i64 last) ∧ w4.cell? ⟨q, 2, none⟩ = some (.slice vca cl.length vcc) ∧ w4.cell? ⟨w.heap.size + 1, 1, none⟩ = some (.int .i64 a)) := ⟨HQ4.out.cell 0, HQ4.out.cell 1, HQ4.out.cell 2, HD4.out.b5.cell 1⟩
  refine hK.out _ _ (fun _ => S4) ?_
  clear hK K S0
  try simp only [Act.put, List.setIfInBounds_toArray, List.set_cons_zero, List.set_cons_succ]
  refine He.wpE_one (i := 6) (by kernel_rfl) rfl (by rfl) (fun K hK => ?_)
  go_simp
  (with_reducible refine (SC.out).mono ?_)
  rintro e w5 ⟨rfl, hm5⟩
  clear SC
  have HN5 := Lib.hid (HN4.out.mod hm5)
  have HD5 := Lib.hid (HD4.out.mod hm5)
  have HR5 := Lib.hid (HR4.out.mod hm5)
  have HP5 := Lib.hid (HP4.out.kp (KpR.mod hm5))
  have HK5 := Lib.hid (HK4.out.trans (KpN.mod hm5))
  have HQ5 := Lib.hid (HQ4.out.mod hm5 (by simp))
  clear HN4 HD4 HR4 HP4 HK4 HQ4
  have S5 : (w5.cell? ⟨q, 0, none⟩ = some (.slice ya ys.length yc) ∧ w5.cell? ⟨q, 1, none⟩ = some (.int .i64 last) ∧ w5.cell? ⟨q, 2, none⟩ = some (.slice vca cl.length vcc) ∧ w5.cell? ⟨w.heap.size + 1, 1, none⟩ = some (.int .i64 a)) := ⟨HQ5.out.cell 0, HQ5.out.cell 1, HQ5.out.cell 2, HD5.out.b5.cell 1⟩
  refine hK.out _ _ (fun _ => S5) ?_
  clear hK K S4
  try simp only [Act.put, List.setIfInBounds_toArray, List.set_cons_zero, List.set_cons_succ]
  refine He.wpE_one (i := 7) (by kernel_rfl) rfl (by rfl) (fun K hK => ?_)
  have z0 := HD5.out.b6.cell 0
  have z1 := HD5.out.b6.cell 1
  have z2 := HD5.out.b6.cell 2
  have fz0 := HD5.out.b6.free 0
  have fz1 := HD5.out.b6.free 1
  have fz2 := HD5.out.b6.free 2
  have HE9 := Lib.hid (set3 HD5.out.b6 (.slice ya ys.length yc) (.int .i64 last) (.slice vca cl.length vcc))
  have r0 := HE9.out.cell 0
  have r1 := HE9.out.cell 1
  have r2 := HE9.out.cell 2
  have HQ6 := Lib.hid (far3 HQ5.out (q := w.heap.size + 2) (by omega) (.slice ya ys.length yc) (.int .i64 last) (.slice vca cl.length vcc))
  have HB6 := Lib.hid (far3 HD5.out.b5 (q := w.heap.size + 2) (by omega) (.slice ya ys.length yc) (.int .i64 last) (.slice vca cl.length vcc))
  have HFI := Lib.hid (fin_st (i := i) HN5.out HR5.out HP5.out HL4.out HD5.out.b6 (Nat.le_add_right _ _) hsz HK5.out (by omega) (by omega) (by omega) (by omega) (by omega) (.slice ya ys.length yc) (.int .i64 last) (.slice vca cl.length vcc))
  go_simp
  clear z0 z1 z2 fz0 fz1 fz2
  generalize World.setCell _ ⟨w.heap.size + 2, 2, none⟩ _ = w6 at *
  have S6 : (w6.cell? ⟨q, 0, none⟩ = some (.slice ya ys.length yc) ∧ w6.cell? ⟨q, 1, none⟩ = some (.int .i64 last) ∧ w6.cell? ⟨q, 2, none⟩ = some (.slice vca cl.length vcc) ∧ w6.cell? ⟨w.heap.size + 1, 1, none⟩ = some (.int .i64 a)) := ⟨HQ6.out.cell 0, HQ6.out.cell 1, HQ6.out.cell 2, HB6.out.cell 1⟩
  refine hK.out _ _ (fun _ => S6) ?_
  clear hK K
  try simp only [Act.put, List.setIfInBounds_toArray, List.set_cons_zero, List.set_cons_succ]
  refine He.wpE_one (i := 8) (by kernel_rfl) rfl (by rfl) (fun K hK => ?_)
  go_simp
  refine hK.out _ _ (fun h => absurd rfl h) ?_
  clear hK K
  refine He.wpE_done (by kernel_rfl) ?_
  try simp only [Act.put, List.setIfInBounds_toArray, List.set_cons_zero, List.set_cons_succ]
  go_wp2_with fail
  refine bodyPost_ret (v := .tuple #[.agg #[.slice ya ys.length yc, .int .i64 last, .slice vca cl.length vcc], .bool true]) (by simp [results, Try.results20, go_sem, r0, r1, r2]) rfl ?_
  exact HPD.out _ _ (HFI.out)
set_option maxHeartbeats 32000000 in
theorem does5_calls {w0 w : World} {g ag mb i : Nat} {vl : Value} {last : Int} {vc : Value} {xs : List Ri} (h : St w0 w g ag mb i vl last vc xs) (hi : i ≤ 1000) (a b c : Int) (off : Bool) (m : Ms) (v : Value) (hx : NaOk w0 ⟨5, a, b, c, off, m, v⟩) (he : m.es.length ≤ 20) :
    Calls Try.prog 20 #[.pointer (some ⟨g, 0, none⟩), rnV vl last vc, .agg (naC ⟨5, a, b, c, off, m, v⟩).toArray] w (DoesP w0 g ag mb i w) := by
  obtain ⟨S, M, C, n, cl, hN, hR, hP, hL, hb0, hb1, hb2, hb3, hb4⟩ := h
  obtain ⟨xa, xb, xc, xe, _, _, _⟩ := hx
  simp only at xa xb xc xe
  unfold in64 at xa xb xc
  have HE := Lib.hid (xe.mod hN.md)
  obtain ⟨va, vcap, hv, _, _⟩ := xe
  subst hv
  obtain ⟨vla, vlc, rfl⟩ := Rw.own_slice hR.own
  obtain ⟨vca, vcc, rfl⟩ := Rw.own_slice hP
  have HPD : Hid (∀ e w', DoesP w0 g ag mb i w e w' → DoesP w0 g ag mb i w e w') := Lib.hid (fun _ _ h => h)
  generalize hDP : DoesP w0 g ag mb i w = DP at HPD ⊢
  replace HPD : Hid (∀ e w', DoesP w0 g ag mb i w e w' → DP e w') := Lib.hid (fun e w' h => by rw [← hDP]; exact h)
  clear hDP
  have hlast : 0 ≤ last ∧ last ≤ 1000000 := by omega
  have HD0 := Lib.hid (Dx.new w #[.slice vla xs.length vlc, .int .i64 last, .slice vca cl.length vcc] #[.int .i64 5, .int .i64 a, .int .i64 b, .int .i64 c, .bool off, .int .i64 m.kind, .int .i64 m.frm, .int .i64 m.dst, .int .i64 m.term, .int .i64 m.index, .int .i64 m.lt, .int .i64 m.commit, .bool m.yes, .slice va m.es.length vcap, .int .i64 m.si, .int .i64 m.st, .int .i64 m.sm, .string m.sx])
  have HM0 := Lib.hid ((((Mod.refl w []).alloc (.cells #[.slice vla xs.length vlc, .int .i64 last, .slice vca cl.length vcc] tRN)).alloc (.cells #[.int .i64 5, .int .i64 a, .int .i64 b, .int .i64 c, .bool off, .int .i64 m.kind, .int .i64 m.frm, .int .i64 m.dst, .int .i64 m.term, .int .i64 m.index, .int .i64 m.lt, .int .i64 m.commit, .bool m.yes, .slice va m.es.length vcap, .int .i64 m.si, .int .i64 m.st, .int .i64 m.sm, .string m.sx] tAct)).alloc (.cells #[.slice none 0 0, .int .i64 0, .slice none 0 0] tRN))
  have HN0 := Lib.hid (hN.mod HM0.out)
  have HR0 := Lib.hid (hR.mod HM0.out)
  have HP0 := Lib.hid (hP.kp (KpR.mod HM0.out))
  have HE0 := Lib.hid (HE.out.mod HM0.out)
  have HLR := Lib.hid hL
  have hcn : cl.length ≤ 100000 := by omega
  have hxn : xs.length ≤ 100000 := by omega
  have hen : m.es.length ≤ 100000 := by omega
  have hsz : w0.heap.size ≤ w.heap.size := hN.md.size
  clear hN hR hP hL HE
  show Calls _ _ #[_, .agg #[.slice vla xs.length vlc, .int .i64 last, .slice vca cl.length vcc], .agg #[.int .i64 5, .int .i64 a, .int .i64 b, .int .i64 c, .bool off, .int .i64 m.kind, .int .i64 m.frm, .int .i64 m.dst, .int .i64 m.term, .int .i64 m.index, .int .i64 m.lt, .int .i64 m.commit, .bool m.yes, .slice va m.es.length vcap, .int .i64 m.si, .int .i64 m.st, .int .i64 m.sm, .string m.sx]] _ _
  go_enter Try.func20, Try.ntmps20
  go_upto_region 1 with (fail)
  generalize ((w.alloc _).alloc _).alloc _ = w1 at *
  have hsz1 : w0.heap.size ≤ w1.heap.size := Nat.le_trans hsz HM0.out.size
  have hw1 : w.heap.size + 2 < w1.heap.size := HD0.out.b6.lt
  have HK0 := Lib.hid (KpN.mod HM0.out)
  have a0 := HD0.out.b5.cell 0
  go_upto_region 20 with (fail)
  have CC := Lib.hid (clear_calls w0 w1 g ag mb last S n M C HN0.out hlast)
  go_wp2_with fail
  (with_reducible refine (CC.out).mono ?_)
  rintro e w2 ⟨rfl, ⟨M', hn2⟩, hk2⟩
  clear CC a0
  have HN2 := Lib.hid hn2
  have HD2 := Lib.hid (HD0.out.kp hk2)
  have HR2 := Lib.hid (HR0.out.kp (KpR.net hk2))
  have HP2 := Lib.hid (HP0.out.kp (KpR.net hk2))
  have HK2 := Lib.hid (HK0.out.trans hk2)
  clear HN0 HD0 HR0 HP0 HK0 hn2 hk2
  go_upto_region 21 with (fail)
  have n0 := HD2.out.b4.cell 0
  have fn0 := HD2.out.b4.free 0
  have HMs := Lib.hid ((Mod.refl w2 [w.heap.size]).setCell (p := ⟨w.heap.size, 0, none⟩) (.inl (by simp)) (.slice none 0 0))
  have HB4 := Lib.hid (HD2.out.b4.set 0 (.slice none 0 0))
  simp only [List.setIfInBounds_toArray, List.set_cons_zero] at HB4
  have HB6 := Lib.hid (HD2.out.b6.far (p := ⟨w.heap.size, 0, none⟩) (by show w.heap.size + 2 ≠ w.heap.size; omega) (.slice none 0 0))
  have HN3 := Lib.hid (HN2.out.far HD2.out.b4 (by omega) nRN.1 nRN.2.1 HMs.out)
  have HP3 := Lib.hid (HP2.out.kp (KpN.setRN (p := ⟨w.heap.size, 0, none⟩) HD2.out.b4 (.slice none 0 0)))
  have HK3 := Lib.hid (HK2.out.modR HMs.out (by simp))
  go_upto_region 22 with (fail)
  clear n0 fn0 HN2 HP2 HK2 HD2 HMs
  generalize World.setCell _ _ _ = w3 at *
  have n0 := HB4.out.cell 0
  have n1 := HB4.out.cell 1
  have n2 := HB4.out.cell 2
  have z0 := HB6.out.cell 0
  have z1 := HB6.out.cell 1
  have z2 := HB6.out.cell 2
  have fz0 := HB6.out.free 0
  have fz1 := HB6.out.free 1
  have fz2 := HB6.out.free 2
  have HE9 := Lib.hid (set3 HB6.out (.slice none 0 0) (.int .i64 last) (.slice vca cl.length vcc))
  have r0 := HE9.out.cell 0
  have r1 := HE9.out.cell 1
  have r2 := HE9.out.cell 2
  go_wp2_with fail
  refine bodyPost_ret (v := .tuple #[.agg #[.slice none 0 0, .int .i64 last, .slice vca cl.length vcc], .bool true]) (by simp [results, Try.results20, go_sem, r0, r1, r2]) rfl ?_
  exact HPD.out _ _ (fin_st HN3.out (RIt.nil _ _) HP3.out (HLR.out.clear _) HB6.out (Nat.le_add_right _ _) hsz HK3.out (by omega) (by omega) (by omega) (by simp) (by omega) _ _ _)
/-- does, whatever the act. -/
theorem does_calls {w0 w : World} {g ag mb i : Nat} {vl : Value} {last : Int} {vc : Value} {xs : List Ri} (h : St w0 w g ag mb i vl last vc xs) (hi : i ≤ 1000) (x : Na) (hx : NaOk w0 x) (he : x.m.es.length ≤ 20) :
    Calls Try.prog 20 #[.pointer (some ⟨g, 0, none⟩), rnV vl last vc, .agg (naC x).toArray] w (DoesP w0 g ag mb i w) := by
  obtain ⟨k, a, b, c, off, m, v⟩ := x
  by_cases k0 : k = 0
  · subst k0; exact does0_calls h hi a b c off m v hx he
  by_cases k1 : k = 1
  · subst k1; exact does1_calls h hi a b c off m v hx he
  by_cases k2 : k = 2
  · subst k2; exact does2_calls h hi a b c off m v hx he
  by_cases k3 : k = 3
  · subst k3; exact does3_calls h hi a b c off m v hx he
  by_cases k4 : k = 4
  · subst k4; exact does4_calls h hi a b c off m v hx he
  by_cases k5 : k = 5
  · subst k5; exact does5_calls h hi a b c off m v hx he
  exact doesN_calls h hi k a b c off m v hx he k0 k1 k2 k3 k4 k5
end Go.Proofs.Ytgmenlfhkhdbdaa.Nt
end

section
/- A struct of many cells that is loaded at once: by one fact on all its cells. -/
namespace Go.Proofs.Ytgmenlfhkhdbdaa.Ld
set_option linter.unusedSimpArgs false
set_option linter.unusedVariables false
section
variable {P : Program}
theorem run_loadVar_cells (w : World) (a : Addr) (ty : TypeId) (cs : List Value) (d : TypeDesc) (hu : P.underlying ty = some d) (hd : (match d with | .struct _ | .array _ _ => true | _ => false) = true) (hi : (P.info? ty).map (·.size) = some cs.length)
    (h : ∀ j v, cs[j]? = some v → w.cell? (a.add j) = some v) : (loadVar ty a).run P w = .ok (.agg cs.toArray) w := by
  have hl : (loadCells a cs.length).run P w = .ok cs.toArray w := run_loadCells_list (P := P) w a cs h
  cases hq : P.info? ty with
  | none => simp [hq] at hi
  | some i =>
    have hs : i.size = cs.length := by simpa [hq] using hi
    have hagg : (isAgg ty).run P w = .ok true w := by
      unfold isAgg
      rw [Sem.run_bind, run_underlying hu w]
      cases d <;> simp_all
    simp [loadVar, Sem.run_bind, hagg, sizeOf, typeInfo, hq, hs, hl]
theorem exec_load {w : World} {o : Oper} {ρ : Operand → Value} (ty : TypeId) (x : Operand) (ho : o.op = .load ty x) (a : Addr) (hx : ρ x = .pointer (some a)) (cs : List Value) (d : TypeDesc) (hu : P.underlying ty = some d) (hd : (match d with | .struct _ | .array _ _ => true | _ => false) = true) (hi : (P.info? ty).map (·.size) = some cs.length)
    (h : ∀ j v, cs[j]? = some v → w.cell? (a.add j) = some v) : (execOp ρ o).run P w = .ok (.value (.agg cs.toArray)) w := by
  unfold execOp
  simp only [ho, hx, Instr.loadAt, Instr.sureAddr, Sem.run_bind, Sem.run_pure, Result.andThen_ok, run_loadVar_cells w a ty cs d hu hd hi h]
end
end Go.Proofs.Ytgmenlfhkhdbdaa.Ld
end

section
/- The law NetPlays. (Printed by mkNc6.py.) -/
namespace Go.Proofs.Ytgmenlfhkhdbdaa.Nt
open Go.RowKit Mem _root_.Go.Proofs.Ytgmenlfhkhdbdaa.Nm Ra
open Ag (It AgW AgT Keep insI woI dueI leftI hasI AddP ItAt soon)
set_option linter.unusedSimpArgs false
set_option linter.unusedVariables false
set_option maxRecDepth 100000

section
variable {w0 A B : World} {g ag mb i : Nat} {vl : Value} {last : Int} {vc : Value} {xs : List Ri}
theorem St.mod (h : St w0 A g ag mb i vl last vc xs) (m : Mod A B []) : St w0 B g ag mb i vl last vc xs := by
  obtain ⟨S, M, C, n, cl, h1, h2, h3, h4⟩ := h
  exact ⟨S, M, C, n, cl, h1.mod m, h2.mod m, h3.kp (KpR.mod m), h4⟩
theorem St.md (h : St w0 A g ag mb i vl last vc xs) : Mod w0 A [] := by
  obtain ⟨S, M, C, n, cl, h1, _⟩ := h
  exact h1.md
theorem St.slices (h : St w0 A g ag mb i vl last vc xs) : ∃ la lc pa pn pc, vl = .slice la xs.length lc ∧ vc = .slice pa pn pc := by
  obtain ⟨S, M, C, n, cl, h1, h2, h3, h4⟩ := h
  obtain ⟨a, c, e⟩ := Rw.own_slice h2.own
  obtain ⟨p, q, e2⟩ := Rw.own_slice h3
  exact ⟨a, c, p, _, q, e, e2⟩
theorem St.bd (h : St w0 A g ag mb i vl last vc xs) : 0 ≤ last ∧ last ≤ i ∧ xs.length ≤ i := by
  obtain ⟨S, M, C, n, cl, h1, h2, h3, h4, h5, h6, h7, h8, h9⟩ := h
  exact ⟨h5, h6, h8⟩
theorem St.mono (h : St w0 A g ag mb i vl last vc xs) : St w0 A g ag mb (i + 1) vl last vc xs := by
  obtain ⟨S, M, C, n, cl, h1, h2, h3, h4, h5, h6, h7, h8, h9⟩ := h
  exact ⟨S, M, C, n, cl, h1, h2, h3, h4, h5, by push_cast; omega, by omega, by omega, by omega⟩
theorem St.far {q : Nat} {cs : Array Value} (h : St w0 A g ag mb i vl last vc xs) (hb : Blk A q cs tRN) (hq : w0.heap.size ≤ q) (x y z : Value) : St w0 (((A.setCell ⟨q, 0, none⟩ x).setCell ⟨q, 1, none⟩ y).setCell ⟨q, 2, none⟩ z) g ag mb i vl last vc xs := by
  obtain ⟨S, M, C, n, cl, h1, h2, h3, h4⟩ := h
  exact ⟨S, M, C, n, cl, h1.far hb hq nRN.1 nRN.2.1 (mod3 A q x y z), h2.kp (kpr3 hb x y z), h3.kp (kpr3 hb x y z), h4⟩
theorem St.len_calls (h : St w0 A g ag mb i vl last vc xs) : Calls Try.prog 18 #[.pointer (some ⟨g, 0, none⟩)] A fun e w' => e = .returned (.int .i64 (xs.length : Int)) ∧ A = w' := by
  obtain ⟨S, M, C, n, cl, h1, h2, h3, h4, _⟩ := h
  have := nlen_calls h1
  rw [h4.len] at this
  exact this
end
set_option maxHeartbeats 32000000 in
theorem netPlays_calls (w : World) (a : Value) (ha : Open.Rd w (.sl actSh 168) [a]) :
    Calls Try.prog 6 #[a] w fun e w' => e = .returned (.bool true) ∧ Below w.heap.size w w' := by
  obtain ⟨l, ad, acap, rfl, hacap, hal, hok, hcs⟩ := acts_rd ha
  have AW := Lib.hid awake_calls
  have NC := Lib.hid (nnew_calls w)
  have HOK := Lib.hid hok
  have HCS := Lib.hid hcs
  have hal' : (l.length : Int) ≤ 140737488351232 := by omega
  clear ha hok hcs hacap
  go_enter Try.func6, Try.ntmps6
  go_wp2_with fail
  (with_reducible refine (NC.out).mono ?_)
  rintro e w1 ⟨g, ag, mb, rfl, hn1, hm1⟩
  have HP1 : Hid (∃ rb, rb = w1.heap.size ∧ w.heap.size ≤ rb ∧ Blk (w1.alloc (.cells #[.slice none 0 0, .int .i64 0, .slice none 0 0] tRN)) rb #[.slice none 0 0, .int .i64 0, .slice none 0 0] tRN ∧ St w (w1.alloc (.cells #[.slice none 0 0, .int .i64 0, .slice none 0 0] tRN)) g ag mb 0 (.slice none 0 0) 0 (.slice none 0 0) []) := Lib.hid
    ⟨_, rfl, hm1.size, Blk.new _ _ _, [], _, _, 0, [], hn1.mod ((Mod.refl _ _).alloc _), RIt.nil _ _, PRow.nil _ _, RelP.nil, by omega, by omega, by omega, by simp, by simp⟩
  clear hn1 hm1 NC
  go_wp2_with fail
  obtain ⟨rb, hrb, hrb1, hb1, hs1⟩ := HP1.out
  rw [← hrb]
  have HB1 := Lib.hid hb1
  have HS1 := Lib.hid hs1
  clear hb1 hs1 hrb HP1
  generalize w1.alloc _ = W1 at HB1 HS1 ⊢
  (with_reducible refine (AW.out _).mono ?_)
  rintro e w2 ⟨rfl, hm2⟩
  have HB2 := Lib.hid (HB1.out.mod hm2 (by simp))
  have HS2 := Lib.hid (HS1.out.mod hm2)
  clear hm2 HB1 HS1 AW
  go_wp2_with fail
  go_loopw [5] (fun vi wr => ∃ (i : Nat) (vl : Value) (last : Int) (vc : Value) (xs : List Ri), i ≤ l.length ∧ i ≤ 150 ∧ vi = .int .i64 (i : Int) ∧ St w wr g ag mb i vl last vc xs ∧ Blk wr rb #[vl, .int .i64 last, vc] tRN) (fun vi _ => 151 - (intOf vi).toNat)
  case atStart => exact ⟨0, _, _, _, _, Nat.zero_le _, by omega, rfl, HS2.out, HB2.out⟩
  case round =>
    obtain ⟨i, vl, last, vc, xs, hi, hi2, rfl, hs, hb⟩ := hrel
    have HS := Lib.hid hs
    have HB := Lib.hid hb
    obtain ⟨la, lc, pa, pn, pc, rfl, rfl⟩ := hs.slices
    clear hs hb HB2 HS2
    by_cases hgo : i < l.length ∧ i < 150
    · obtain ⟨hlt, h60⟩ := hgo
      have hlt' : (i : Int) < l.length := by omega
      have h60' : (i : Int) < 150 := by omega
      obtain ⟨bb, off, rfl, hc⟩ := HCS.out.resolve_left (fun h => by rw [h] at hlt; simp at hlt)
      have hc := hc i hlt
      have HX := Lib.hid (HOK.out _ (List.getElem_mem hlt))
      generalize l[i]'hlt = x at *
      have HV := HX.out.ens
      obtain ⟨va, vcap, hv, _, _⟩ := HX.out.ens
      have hnx : naC x = [.int .i64 x.k, .int .i64 x.a, .int .i64 x.b, .int .i64 x.c, .bool x.off, .int .i64 x.m.kind, .int .i64 x.m.frm, .int .i64 x.m.dst, .int .i64 x.m.term, .int .i64 x.m.index, .int .i64 x.m.lt, .int .i64 x.m.commit, .bool x.m.yes, .slice va x.m.es.length vcap, .int .i64 x.m.si, .int .i64 x.m.st, .int .i64 x.m.sm, .string x.m.sx] := by unfold naC msC; rw [hv]; rfl
      have HE : Hid (∀ y, Mod w y [] → ∀ j v, ([.int .i64 x.k, .int .i64 x.a, .int .i64 x.b, .int .i64 x.c, .bool x.off, .int .i64 x.m.kind, .int .i64 x.m.frm, .int .i64 x.m.dst, .int .i64 x.m.term, .int .i64 x.m.index, .int .i64 x.m.lt, .int .i64 x.m.commit, .bool x.m.yes, .slice va x.m.es.length vcap, .int .i64 x.m.si, .int .i64 x.m.st, .int .i64 x.m.sm, .string x.m.sx])[j]? = some v → y.cell? ((⟨bb, off + i * 18, none⟩ : Addr).add j) = some v) := Lib.hid (fun y m j v hj => by
        rw [← hnx] at hj
        have hj18 : j < 18 := by
          have h1 : (naC x).length = 18 := rfl
          rcases Nat.lt_or_ge j 18 with h2 | h2
          · exact h2
          · rw [List.getElem?_eq_none (by omega)] at hj; cases hj
        rw [Go.WideShapes.add_plain]
        exact Ra.keepC m ((hc j hj18).trans hj))
      have LC := Lib.hid (light_calls x.m x.v wr (HX.out.ens.mod HS.out.md) HX.out.len HX.out.sx HX.out.tx)
      have DC := Lib.hid (fun W (h : St w W g ag mb i (.slice la xs.length lc) last (.slice pa pn pc) xs) (he : x.m.es.length ≤ 20) => does_calls h (by omega) x HX.out he)
      rw [hv] at LC
      replace DC : Hid (∀ W, St w W g ag mb i (.slice la xs.length lc) last (.slice pa pn pc) xs → x.m.es.length ≤ 20 → Calls Try.prog 20 #[.pointer (some ⟨g, 0, none⟩), .agg #[.slice la xs.length lc, .int .i64 last, .slice pa pn pc], .agg #[.int .i64 x.k, .int .i64 x.a, .int .i64 x.b, .int .i64 x.c, .bool x.off, .int .i64 x.m.kind, .int .i64 x.m.frm, .int .i64 x.m.dst, .int .i64 x.m.term, .int .i64 x.m.index, .int .i64 x.m.lt, .int .i64 x.m.commit, .bool x.m.yes, .slice va x.m.es.length vcap, .int .i64 x.m.si, .int .i64 x.m.st, .int .i64 x.m.sm, .string x.m.sx]] W (DoesP w g ag mb i W)) := Lib.hid (fun W h he => by
        have := DC.out W h he
        unfold naC msC at this
        rw [hv] at this
        exact this)
      clear hc HV hv hnx HX
      have z5 : wr.cell? ⟨bb, off + i * 18 + 5, none⟩ = some (.int .i64 x.m.kind) := HE.out wr HS.out.md 5 _ rfl
      have z6 : wr.cell? ⟨bb, off + i * 18 + 6, none⟩ = some (.int .i64 x.m.frm) := HE.out wr HS.out.md 6 _ rfl
      have z7 : wr.cell? ⟨bb, off + i * 18 + 7, none⟩ = some (.int .i64 x.m.dst) := HE.out wr HS.out.md 7 _ rfl
      have z8 : wr.cell? ⟨bb, off + i * 18 + 8, none⟩ = some (.int .i64 x.m.term) := HE.out wr HS.out.md 8 _ rfl
      have z9 : wr.cell? ⟨bb, off + i * 18 + 9, none⟩ = some (.int .i64 x.m.index) := HE.out wr HS.out.md 9 _ rfl
      have z10 : wr.cell? ⟨bb, off + i * 18 + 10, none⟩ = some (.int .i64 x.m.lt) := HE.out wr HS.out.md 10 _ rfl
      have z11 : wr.cell? ⟨bb, off + i * 18 + 11, none⟩ = some (.int .i64 x.m.commit) := HE.out wr HS.out.md 11 _ rfl
      have z12 : wr.cell? ⟨bb, off + i * 18 + 12, none⟩ = some (.bool x.m.yes) := HE.out wr HS.out.md 12 _ rfl
      have z13 : wr.cell? ⟨bb, off + i * 18 + 13, none⟩ = some (.slice va x.m.es.length vcap) := HE.out wr HS.out.md 13 _ rfl
      have z14 : wr.cell? ⟨bb, off + i * 18 + 14, none⟩ = some (.int .i64 x.m.si) := HE.out wr HS.out.md 14 _ rfl
      have z15 : wr.cell? ⟨bb, off + i * 18 + 15, none⟩ = some (.int .i64 x.m.st) := HE.out wr HS.out.md 15 _ rfl
      have z16 : wr.cell? ⟨bb, off + i * 18 + 16, none⟩ = some (.int .i64 x.m.sm) := HE.out wr HS.out.md 16 _ rfl
      have z17 : wr.cell? ⟨bb, off + i * 18 + 17, none⟩ = some (.string x.m.sx) := HE.out wr HS.out.md 17 _ rfl
      go_wp2_with fail
      (with_reducible refine (LC.out).mono ?_)
      rintro e w3 ⟨LB, rfl, hm3, hlb⟩
      have HLB := Lib.hid hlb
      have HS3 := Lib.hid (HS.out.mod hm3)
      have HB3 := Lib.hid (HB.out.mod hm3 (by simp))
      clear hm3 hlb LC HS HB z5 z6 z7 z8 z9 z10 z11 z12 z13 z14 z15 z16 z17
      cases LB
      · go_wp2_with fail
        go_roundw
        case rel => exact ⟨i + 1, _, _, _, _, by omega, by omega, by go_num, HS3.out.mono, HB3.out⟩
        case measure => simp [intOf]; omega
      have he := HLB.out rfl
      clear HLB
      go_upto_region 9 with (fail)
      go_cut [6, 7] (fun s6 s7 wx => ∃ q vl' last' vc' xs', s6 = .pointer (some ⟨q, 0, none⟩) ∧ s7 = .bool true ∧ St w wx g ag mb (i + 1) vl' last' vc' xs' ∧ Blk wx q #[vl', .int .i64 last', vc'] tRN ∧ Blk wx rb #[.slice la xs.length lc, .int .i64 last, .slice pa pn pc] tRN)
      case first =>
        have HSd := Lib.hid (HS3.out.mod ((Mod.refl w3 []).drew))
        have HBd := Lib.hid (HB3.out.mod ((Mod.refl w3 []).drew) (by simp))
        refine He.wp_region_e 12 (fun w' => (w'.cell? ⟨rb, 0, none⟩ = some (.slice la xs.length lc) ∧ w'.cell? ⟨rb, 1, none⟩ = some (.int .i64 last) ∧ w'.cell? ⟨rb, 2, none⟩ = some (.slice pa pn pc) ∧ (∀ j v, ([.int .i64 x.k, .int .i64 x.a, .int .i64 x.b, .int .i64 x.c, .bool x.off, .int .i64 x.m.kind, .int .i64 x.m.frm, .int .i64 x.m.dst, .int .i64 x.m.term, .int .i64 x.m.index, .int .i64 x.m.lt, .int .i64 x.m.commit, .bool x.m.yes, .slice va x.m.es.length vcap, .int .i64 x.m.si, .int .i64 x.m.st, .int .i64 x.m.sm, .string x.m.sx])[j]? = some v → w'.cell? ((⟨bb, off + i * 18, none⟩ : Addr).add j) = some v))) (by kernel_rfl) ⟨HBd.out.cell 0, HBd.out.cell 1, HBd.out.cell 2, HE.out _ HSd.out.md⟩ (fun S0 => ?_)
        clear HS3 HB3
        generalize w3.drew = wd at *
        refine He.wpE_take (i := 0) (v := ?_) rfl (by kernel_rfl) (by kernel_rfl) (by kernel_rfl) (by kernel_rfl) (by kernel_rfl) (fun _ _ _ h => h) (by rfl) ?_ (by assumption) ?_
        rotate_left
        · (intro w' hSw; (try dsimp only at hSw); go_simp; first | done | with_reducible rfl)
        try simp only [List.getElem_toArray, List.getElem_cons_succ, List.getElem_cons_zero, Act.put, List.setIfInBounds_toArray, List.set_cons_zero, List.set_cons_succ]
        refine He.wpE_take (i := 1) (v := ?_) rfl (by kernel_rfl) (by kernel_rfl) (by kernel_rfl) (by kernel_rfl) (by kernel_rfl) (fun _ _ _ h => h) (by rfl) ?_ (by assumption) ?_
        rotate_left
        · (intro w' hSw; (try dsimp only at hSw); go_simp; first | done | with_reducible rfl)
        try simp only [List.getElem_toArray, List.getElem_cons_succ, List.getElem_cons_zero, Act.put, List.setIfInBounds_toArray, List.set_cons_zero, List.set_cons_succ]
        refine He.wpE_take (i := 2) (v := ?_) rfl (by kernel_rfl) (by kernel_rfl) (by kernel_rfl) (by kernel_rfl) (by kernel_rfl) (fun _ _ _ h => h) (by rfl) ?_ (by assumption) ?_
        rotate_left
        · (intro w' hSw; (try dsimp only at hSw); go_simp; first | done | with_reducible rfl)
        try simp only [List.getElem_toArray, List.getElem_cons_succ, List.getElem_cons_zero, Act.put, List.setIfInBounds_toArray, List.set_cons_zero, List.set_cons_succ]
        refine He.wpE_take (i := 3) (v := ?_) rfl (by kernel_rfl) (by kernel_rfl) (by kernel_rfl) (by kernel_rfl) (by kernel_rfl) (fun _ _ _ h => h) (by rfl) ?_ (by assumption) ?_
        rotate_left
        · (intro w' hSw; (try dsimp only at hSw); go_simp; first | done | with_reducible rfl)
        try simp only [List.getElem_toArray, List.getElem_cons_succ, List.getElem_cons_zero, Act.put, List.setIfInBounds_toArray, List.set_cons_zero, List.set_cons_succ]
        refine He.wpE_take (i := 4) (v := ?_) rfl (by kernel_rfl) (by kernel_rfl) (by kernel_rfl) (by kernel_rfl) (by kernel_rfl) (fun _ _ _ h => h) (by rfl) ?_ (by assumption) ?_
        rotate_left
        · (intro w' hSw; (try dsimp only at hSw); go_simp; first | done | with_reducible rfl)
        try simp only [List.getElem_toArray, List.getElem_cons_succ, List.getElem_cons_zero, Act.put, List.setIfInBounds_toArray, List.set_cons_zero, List.set_cons_succ]
        refine He.wpE_take (i := 5) (v := .agg ([.int .i64 x.k, .int .i64 x.a, .int .i64 x.b, .int .i64 x.c, .bool x.off, .int .i64 x.m.kind, .int .i64 x.m.frm, .int .i64 x.m.dst, .int .i64 x.m.term, .int .i64 x.m.index, .int .i64 x.m.lt, .int .i64 x.m.commit, .bool x.m.yes, .slice va x.m.es.length vcap, .int .i64 x.m.si, .int .i64 x.m.st, .int .i64 x.m.sm, .string x.m.sx]).toArray) rfl (by kernel_rfl) (by kernel_rfl) (by kernel_rfl) (by kernel_rfl) (by kernel_rfl) (fun _ _ _ h => h) (by rfl) (fun w' hSw => Ld.exec_load tAct (.tmp 38) rfl ⟨bb, off + i * 18, none⟩ rfl ([.int .i64 x.k, .int .i64 x.a, .int .i64 x.b, .int .i64 x.c, .bool x.off, .int .i64 x.m.kind, .int .i64 x.m.frm, .int .i64 x.m.dst, .int .i64 x.m.term, .int .i64 x.m.index, .int .i64 x.m.lt, .int .i64 x.m.commit, .bool x.m.yes, .slice va x.m.es.length vcap, .int .i64 x.m.si, .int .i64 x.m.st, .int .i64 x.m.sm, .string x.m.sx]) _ Try.underlying52 rfl (by kernel_rfl) hSw.2.2.2) (by assumption) ?_
        try simp only [Act.put, List.setIfInBounds_toArray, List.set_cons_zero, List.set_cons_succ]
        refine He.wpE_two (i := 6) (j := 10) (by kernel_rfl) rfl rfl (by rfl) (by rfl) (fun K hK => ?_) (fun K hK => ?_)
        · go_simp
          (with_reducible refine (DC.out _ HSd.out he).mono ?_)
          rintro e wa ⟨vl', last', vc', xs', rfl, hs', hk'⟩
          obtain ⟨la', lc', pa', pn', pc', rfl, rfl⟩ := hs'.slices
          have HSa := Lib.hid hs'
          have HBa := Lib.hid (hk' _ _ _ HBd.out nRN.1 nRN.2.1)
          clear hs' hk'
          clear S0
          have S0 : (wa.cell? ⟨rb, 0, none⟩ = some (.slice la xs.length lc) ∧ wa.cell? ⟨rb, 1, none⟩ = some (.int .i64 last) ∧ wa.cell? ⟨rb, 2, none⟩ = some (.slice pa pn pc) ∧ (∀ j v, ([.int .i64 x.k, .int .i64 x.a, .int .i64 x.b, .int .i64 x.c, .bool x.off, .int .i64 x.m.kind, .int .i64 x.m.frm, .int .i64 x.m.dst, .int .i64 x.m.term, .int .i64 x.m.index, .int .i64 x.m.lt, .int .i64 x.m.commit, .bool x.m.yes, .slice va x.m.es.length vcap, .int .i64 x.m.si, .int .i64 x.m.st, .int .i64 x.m.sm, .string x.m.sx])[j]? = some v → wa.cell? ((⟨bb, off + i * 18, none⟩ : Addr).add j) = some v)) := ⟨HBa.out.cell 0, HBa.out.cell 1, HBa.out.cell 2, HE.out _ HSa.out.md⟩
          refine hK.out _ _ (fun _ => S0) ?_
          clear hK K
          try simp only [Act.put, List.setIfInBounds_toArray, List.set_cons_zero, List.set_cons_succ]
          unfold rnV
          refine He.wpE_take (i := 7) (v := ?_) rfl (by kernel_rfl) (by kernel_rfl) (by kernel_rfl) (by kernel_rfl) (by kernel_rfl) (fun _ _ _ h => h) (by rfl) ?_ (by assumption) ?_
          rotate_left
          · (intro w' hSw; (try dsimp only at hSw); go_simp; first | done | with_reducible rfl)
          try simp only [List.getElem_toArray, List.getElem_cons_succ, List.getElem_cons_zero, Act.put, List.setIfInBounds_toArray, List.set_cons_zero, List.set_cons_succ]
          refine He.wpE_take (i := 8) (v := ?_) rfl (by kernel_rfl) (by kernel_rfl) (by kernel_rfl) (by kernel_rfl) (by kernel_rfl) (fun _ _ _ h => h) (by rfl) ?_ (by assumption) ?_
          rotate_left
          · (intro w' hSw; (try dsimp only at hSw); go_simp; first | done | with_reducible rfl)
          try simp only [List.getElem_toArray, List.getElem_cons_succ, List.getElem_cons_zero, Act.put, List.setIfInBounds_toArray, List.set_cons_zero, List.set_cons_succ]
          refine He.wpE_take (i := 9) (v := ?_) rfl (by kernel_rfl) (by kernel_rfl) (by kernel_rfl) (by kernel_rfl) (by kernel_rfl) (fun _ _ _ h => h) (by rfl) ?_ (by assumption) ?_
          rotate_left
          · (intro w' hSw; (try dsimp only at hSw); go_simp; first | done | with_reducible rfl)
          try simp only [List.getElem_toArray, List.getElem_cons_succ, List.getElem_cons_zero, Act.put, List.setIfInBounds_toArray, List.set_cons_zero, List.set_cons_succ]
          refine He.wpE_one (i := 10) (by kernel_rfl) rfl (by rfl) (fun K hK => ?_)
          go_simp
          have HZ := Lib.hid (Blk.new wa #[.slice none 0 0, .int .i64 0, .slice none 0 0] tRN)
          have HSc := Lib.hid (HSa.out.mod ((Mod.refl wa []).alloc (.cells #[.slice none 0 0, .int .i64 0, .slice none 0 0] tRN)))
          have HBc := Lib.hid (HBa.out.alloc (.cells #[.slice none 0 0, .int .i64 0, .slice none 0 0] tRN))
          have hqw : w.heap.size ≤ wa.heap.size := HSa.out.md.size
          have hqr : rb ≠ wa.heap.size := Nat.ne_of_lt HBa.out.lt
          obtain ⟨q, hq⟩ : ∃ q, wa.heap.size = q := ⟨_, rfl⟩
          rw [hq] at HZ hqw hqr ⊢
          clear hq
          generalize wa.alloc _ = wc at *
          clear S0
          have S0 : (wc.cell? ⟨rb, 0, none⟩ = some (.slice la xs.length lc) ∧ wc.cell? ⟨rb, 1, none⟩ = some (.int .i64 last) ∧ wc.cell? ⟨rb, 2, none⟩ = some (.slice pa pn pc) ∧ (∀ j v, ([.int .i64 x.k, .int .i64 x.a, .int .i64 x.b, .int .i64 x.c, .bool x.off, .int .i64 x.m.kind, .int .i64 x.m.frm, .int .i64 x.m.dst, .int .i64 x.m.term, .int .i64 x.m.index, .int .i64 x.m.lt, .int .i64 x.m.commit, .bool x.m.yes, .slice va x.m.es.length vcap, .int .i64 x.m.si, .int .i64 x.m.st, .int .i64 x.m.sm, .string x.m.sx])[j]? = some v → wc.cell? ((⟨bb, off + i * 18, none⟩ : Addr).add j) = some v)) := ⟨HBc.out.cell 0, HBc.out.cell 1, HBc.out.cell 2, HE.out _ HSc.out.md⟩
          refine hK.out _ _ (fun _ => S0) ?_
          clear hK K
          try simp only [Act.put, List.setIfInBounds_toArray, List.set_cons_zero, List.set_cons_succ]
          refine He.wpE_one (i := 11) (by kernel_rfl) rfl (by rfl) (fun K hK => ?_)
          have y0 := HZ.out.cell 0
          have y1 := HZ.out.cell 1
          have y2 := HZ.out.cell 2
          have fy0 := HZ.out.free 0
          have fy1 := HZ.out.free 1
          have fy2 := HZ.out.free 2
          have HZ2 := Lib.hid (set3 HZ.out (.slice la' xs'.length lc') (.int .i64 last') (.slice pa' pn' pc'))
          have HS9 := Lib.hid (HSc.out.far HZ.out hqw (.slice la' xs'.length lc') (.int .i64 last') (.slice pa' pn' pc'))
          have HB9 := Lib.hid (far3 HBc.out hqr (.slice la' xs'.length lc') (.int .i64 last') (.slice pa' pn' pc'))
          go_simp
          clear y0 y1 y2 fy0 fy1 fy2 HZ
          generalize World.setCell _ ⟨q, 2, none⟩ _ = w9 at *
          clear S0
          have S0 : (w9.cell? ⟨rb, 0, none⟩ = some (.slice la xs.length lc) ∧ w9.cell? ⟨rb, 1, none⟩ = some (.int .i64 last) ∧ w9.cell? ⟨rb, 2, none⟩ = some (.slice pa pn pc) ∧ (∀ j v, ([.int .i64 x.k, .int .i64 x.a, .int .i64 x.b, .int .i64 x.c, .bool x.off, .int .i64 x.m.kind, .int .i64 x.m.frm, .int .i64 x.m.dst, .int .i64 x.m.term, .int .i64 x.m.index, .int .i64 x.m.lt, .int .i64 x.m.commit, .bool x.m.yes, .slice va x.m.es.length vcap, .int .i64 x.m.si, .int .i64 x.m.st, .int .i64 x.m.sm, .string x.m.sx])[j]? = some v → w9.cell? ((⟨bb, off + i * 18, none⟩ : Addr).add j) = some v)) := ⟨HB9.out.cell 0, HB9.out.cell 1, HB9.out.cell 2, HE.out _ HS9.out.md⟩
          refine hK.out _ _ (fun _ => S0) ?_
          clear hK K
          try simp only [Act.put, List.setIfInBounds_toArray, List.set_cons_zero, List.set_cons_succ]
          refine He.wpE_one (i := 12) (by kernel_rfl) rfl (by rfl) (fun K hK => ?_)
          go_simp
          refine hK.out _ _ (fun h => absurd rfl h) ?_
          clear hK K
          refine He.wpE_done (by kernel_rfl) ?_
          try simp only [Act.put, List.setIfInBounds_toArray, List.set_cons_zero, List.set_cons_succ]
          clear S0
          go_wp2_with fail
          go_meet
          exact ⟨q, _, _, _, _, rfl, rfl, HS9.out, HZ2.out, HB9.out⟩
        · go_simp
          have HZ := Lib.hid (Blk.new wd #[.slice none 0 0, .int .i64 0, .slice none 0 0] tRN)
          have HSa := Lib.hid (HSd.out.mod ((Mod.refl wd []).alloc (.cells #[.slice none 0 0, .int .i64 0, .slice none 0 0] tRN)))
          have HBa := Lib.hid (HBd.out.alloc (.cells #[.slice none 0 0, .int .i64 0, .slice none 0 0] tRN))
          have hqw : w.heap.size ≤ wd.heap.size := HSd.out.md.size
          have hqr : rb ≠ wd.heap.size := Nat.ne_of_lt HBd.out.lt
          obtain ⟨q, hq⟩ : ∃ q, wd.heap.size = q := ⟨_, rfl⟩
          rw [hq] at HZ hqw hqr ⊢
          clear hq
          generalize wd.alloc _ = wa at *
          clear S0
          have S0 : (wa.cell? ⟨rb, 0, none⟩ = some (.slice la xs.length lc) ∧ wa.cell? ⟨rb, 1, none⟩ = some (.int .i64 last) ∧ wa.cell? ⟨rb, 2, none⟩ = some (.slice pa pn pc) ∧ (∀ j v, ([.int .i64 x.k, .int .i64 x.a, .int .i64 x.b, .int .i64 x.c, .bool x.off, .int .i64 x.m.kind, .int .i64 x.m.frm, .int .i64 x.m.dst, .int .i64 x.m.term, .int .i64 x.m.index, .int .i64 x.m.lt, .int .i64 x.m.commit, .bool x.m.yes, .slice va x.m.es.length vcap, .int .i64 x.m.si, .int .i64 x.m.st, .int .i64 x.m.sm, .string x.m.sx])[j]? = some v → wa.cell? ((⟨bb, off + i * 18, none⟩ : Addr).add j) = some v)) := ⟨HBa.out.cell 0, HBa.out.cell 1, HBa.out.cell 2, HE.out _ HSa.out.md⟩
          refine hK.out _ _ (fun _ => S0) ?_
          clear hK K
          try simp only [Act.put, List.setIfInBounds_toArray, List.set_cons_zero, List.set_cons_succ]
          refine He.wpE_one (i := 6) (by kernel_rfl) rfl (by rfl) (fun K hK => ?_)
          go_simp
          (with_reducible refine (DC.out _ HSa.out he).mono ?_)
          rintro e wc ⟨vl', last', vc', xs', rfl, hs', hk'⟩
          obtain ⟨la', lc', pa', pn', pc', rfl, rfl⟩ := hs'.slices
          have HSc := Lib.hid hs'
          have HBc := Lib.hid (hk' _ _ _ HBa.out nRN.1 nRN.2.1)
          replace HZ := Lib.hid (hk' _ _ _ HZ.out nRN.1 nRN.2.1)
          clear hs' hk'
          clear S0
          have S0 : (wc.cell? ⟨rb, 0, none⟩ = some (.slice la xs.length lc) ∧ wc.cell? ⟨rb, 1, none⟩ = some (.int .i64 last) ∧ wc.cell? ⟨rb, 2, none⟩ = some (.slice pa pn pc) ∧ (∀ j v, ([.int .i64 x.k, .int .i64 x.a, .int .i64 x.b, .int .i64 x.c, .bool x.off, .int .i64 x.m.kind, .int .i64 x.m.frm, .int .i64 x.m.dst, .int .i64 x.m.term, .int .i64 x.m.index, .int .i64 x.m.lt, .int .i64 x.m.commit, .bool x.m.yes, .slice va x.m.es.length vcap, .int .i64 x.m.si, .int .i64 x.m.st, .int .i64 x.m.sm, .string x.m.sx])[j]? = some v → wc.cell? ((⟨bb, off + i * 18, none⟩ : Addr).add j) = some v)) := ⟨HBc.out.cell 0, HBc.out.cell 1, HBc.out.cell 2, HE.out _ HSc.out.md⟩
          refine hK.out _ _ (fun _ => S0) ?_
          clear hK K
          try simp only [Act.put, List.setIfInBounds_toArray, List.set_cons_zero, List.set_cons_succ]
          unfold rnV
          refine He.wpE_take (i := 7) (v := ?_) rfl (by kernel_rfl) (by kernel_rfl) (by kernel_rfl) (by kernel_rfl) (by kernel_rfl) (fun _ _ _ h => h) (by rfl) ?_ (by assumption) ?_
          rotate_left
          · (intro w' hSw; (try dsimp only at hSw); go_simp; first | done | with_reducible rfl)
          try simp only [List.getElem_toArray, List.getElem_cons_succ, List.getElem_cons_zero, Act.put, List.setIfInBounds_toArray, List.set_cons_zero, List.set_cons_succ]
          refine He.wpE_take (i := 8) (v := ?_) rfl (by kernel_rfl) (by kernel_rfl) (by kernel_rfl) (by kernel_rfl) (by kernel_rfl) (fun _ _ _ h => h) (by rfl) ?_ (by assumption) ?_
          rotate_left
          · (intro w' hSw; (try dsimp only at hSw); go_simp; first | done | with_reducible rfl)
          try simp only [List.getElem_toArray, List.getElem_cons_succ, List.getElem_cons_zero, Act.put, List.setIfInBounds_toArray, List.set_cons_zero, List.set_cons_succ]
          refine He.wpE_take (i := 9) (v := ?_) rfl (by kernel_rfl) (by kernel_rfl) (by kernel_rfl) (by kernel_rfl) (by kernel_rfl) (fun _ _ _ h => h) (by rfl) ?_ (by assumption) ?_
          rotate_left
          · (intro w' hSw; (try dsimp only at hSw); go_simp; first | done | with_reducible rfl)
          try simp only [List.getElem_toArray, List.getElem_cons_succ, List.getElem_cons_zero, Act.put, List.setIfInBounds_toArray, List.set_cons_zero, List.set_cons_succ]
          refine He.wpE_one (i := 11) (by kernel_rfl) rfl (by rfl) (fun K hK => ?_)
          have y0 := HZ.out.cell 0
          have y1 := HZ.out.cell 1
          have y2 := HZ.out.cell 2
          have fy0 := HZ.out.free 0
          have fy1 := HZ.out.free 1
          have fy2 := HZ.out.free 2
          have HZ2 := Lib.hid (set3 HZ.out (.slice la' xs'.length lc') (.int .i64 last') (.slice pa' pn' pc'))
          have HS9 := Lib.hid (HSc.out.far HZ.out hqw (.slice la' xs'.length lc') (.int .i64 last') (.slice pa' pn' pc'))
          have HB9 := Lib.hid (far3 HBc.out hqr (.slice la' xs'.length lc') (.int .i64 last') (.slice pa' pn' pc'))
          go_simp
          clear y0 y1 y2 fy0 fy1 fy2 HZ
          generalize World.setCell _ ⟨q, 2, none⟩ _ = w9 at *
          clear S0
          have S0 : (w9.cell? ⟨rb, 0, none⟩ = some (.slice la xs.length lc) ∧ w9.cell? ⟨rb, 1, none⟩ = some (.int .i64 last) ∧ w9.cell? ⟨rb, 2, none⟩ = some (.slice pa pn pc) ∧ (∀ j v, ([.int .i64 x.k, .int .i64 x.a, .int .i64 x.b, .int .i64 x.c, .bool x.off, .int .i64 x.m.kind, .int .i64 x.m.frm, .int .i64 x.m.dst, .int .i64 x.m.term, .int .i64 x.m.index, .int .i64 x.m.lt, .int .i64 x.m.commit, .bool x.m.yes, .slice va x.m.es.length vcap, .int .i64 x.m.si, .int .i64 x.m.st, .int .i64 x.m.sm, .string x.m.sx])[j]? = some v → w9.cell? ((⟨bb, off + i * 18, none⟩ : Addr).add j) = some v)) := ⟨HB9.out.cell 0, HB9.out.cell 1, HB9.out.cell 2, HE.out _ HS9.out.md⟩
          refine hK.out _ _ (fun _ => S0) ?_
          clear hK K
          try simp only [Act.put, List.setIfInBounds_toArray, List.set_cons_zero, List.set_cons_succ]
          refine He.wpE_one (i := 12) (by kernel_rfl) rfl (by rfl) (fun K hK => ?_)
          go_simp
          refine hK.out _ _ (fun h => absurd rfl h) ?_
          clear hK K
          refine He.wpE_done (by kernel_rfl) ?_
          try simp only [Act.put, List.setIfInBounds_toArray, List.set_cons_zero, List.set_cons_succ]
          clear S0
          go_wp2_with fail
          go_meet
          exact ⟨q, _, _, _, _, rfl, rfl, HS9.out, HZ2.out, HB9.out⟩
      case rest =>
        obtain ⟨q, vl', last', vc', xs', rfl, rfl, hs4, hq4, hb4⟩ := hcut
        obtain ⟨la', lc', pa', pn', pc', rfl, rfl⟩ := hs4.slices
        have HS4 := Lib.hid hs4
        have HQ4 := Lib.hid hq4
        have HB4 := Lib.hid hb4
        clear hs4 hq4 hb4 DC HE HS3 HB3
        have n0 := HQ4.out.cell 0
        have n1 := HQ4.out.cell 1
        have n2 := HQ4.out.cell 2
        have y0 := HB4.out.cell 0
        have y1 := HB4.out.cell 1
        have y2 := HB4.out.cell 2
        have fy0 := HB4.out.free 0
        have fy1 := HB4.out.free 1
        have fy2 := HB4.out.free 2
        have HB5 := Lib.hid (set3 HB4.out (.slice la' xs'.length lc') (.int .i64 last') (.slice pa' pn' pc'))
        have HS5 := Lib.hid (HS4.out.far HB4.out hrb1 (.slice la' xs'.length lc') (.int .i64 last') (.slice pa' pn' pc'))
        go_upto_region 11 with (fail)
        clear n0 n1 n2 y0 y1 y2 fy0 fy1 fy2 HQ4 HB4 HS4
        generalize World.setCell _ ⟨rb, 2, none⟩ _ = w5 at *
        have b0 := HB5.out.cell 0
        have C := Lib.hid (fun W (m : Mod w5 W []) => (HS5.out.mod m).len_calls)
        have hne : ((xs'.length : Int) != (xs'.length : Int)) = false := by simp
        refine He.wp_region_e 9 (fun w' => w'.cell? ⟨rb, 0, none⟩ = some (.slice la' xs'.length lc')) (by kernel_rfl) ((HB5.out.mod ((Mod.refl w5 []).drew) (by simp)).cell 0) (fun S0 => ?_)
        have HSd := Lib.hid (HS5.out.mod ((Mod.refl w5 []).drew))
        have HBd := Lib.hid (HB5.out.mod ((Mod.refl w5 []).drew) (by simp))
        clear HS5 HB5 b0 C
        generalize w5.drew = wd at *
        have C := Lib.hid HSd.out.len_calls
        refine He.wpE_take (i := 0) (v := ?_) rfl (by kernel_rfl) (by kernel_rfl) (by kernel_rfl) (by kernel_rfl) (by kernel_rfl) (fun _ _ _ h => h) (by rfl) ?_ (by assumption) ?_
        rotate_left
        · (intro w' hSw; (try dsimp only at hSw); go_simp; first | done | with_reducible rfl)
        try simp only [List.getElem_toArray, List.getElem_cons_succ, List.getElem_cons_zero, Act.put, List.setIfInBounds_toArray, List.set_cons_zero, List.set_cons_succ]
        refine He.wpE_take (i := 1) (v := ?_) rfl (by kernel_rfl) (by kernel_rfl) (by kernel_rfl) (by kernel_rfl) (by kernel_rfl) (fun _ _ _ h => h) (by rfl) ?_ (by assumption) ?_
        rotate_left
        · (intro w' hSw; (try dsimp only at hSw); go_simp; first | done | with_reducible rfl)
        try simp only [List.getElem_toArray, List.getElem_cons_succ, List.getElem_cons_zero, Act.put, List.setIfInBounds_toArray, List.set_cons_zero, List.set_cons_succ]
        refine He.wpE_take (i := 2) (v := ?_) rfl (by kernel_rfl) (by kernel_rfl) (by kernel_rfl) (by kernel_rfl) (by kernel_rfl) (fun _ _ _ h => h) (by rfl) ?_ (by assumption) ?_
        rotate_left
        · (intro w' hSw; (try dsimp only at hSw); go_simp; first | done | with_reducible rfl)
        try simp only [List.getElem_toArray, List.getElem_cons_succ, List.getElem_cons_zero, Act.put, List.setIfInBounds_toArray, List.set_cons_zero, List.set_cons_succ]
        refine He.wpE_take (i := 3) (v := ?_) rfl (by kernel_rfl) (by kernel_rfl) (by kernel_rfl) (by kernel_rfl) (by kernel_rfl) (fun _ _ _ h => h) (by rfl) ?_ (by assumption) ?_
        rotate_left
        · (intro w' hSw; (try dsimp only at hSw); go_simp; first | done | with_reducible rfl)
        try simp only [List.getElem_toArray, List.getElem_cons_succ, List.getElem_cons_zero, Act.put, List.setIfInBounds_toArray, List.set_cons_zero, List.set_cons_succ]
        refine He.wpE_take (i := 5) (v := ?_) rfl (by kernel_rfl) (by kernel_rfl) (by kernel_rfl) (by kernel_rfl) (by kernel_rfl) (fun _ _ _ h => h) (by rfl) ?_ (by assumption) ?_
        rotate_left
        · (intro w' hSw; (try dsimp only at hSw); go_simp; first | done | with_reducible rfl)
        try simp only [List.getElem_toArray, List.getElem_cons_succ, List.getElem_cons_zero, Act.put, List.setIfInBounds_toArray, List.set_cons_zero, List.set_cons_succ]
        refine He.wpE_take (i := 6) (v := ?_) rfl (by kernel_rfl) (by kernel_rfl) (by kernel_rfl) (by kernel_rfl) (by kernel_rfl) (fun _ _ _ h => h) (by rfl) ?_ (by assumption) ?_
        rotate_left
        · (intro w' hSw; (try dsimp only at hSw); go_simp; first | done | with_reducible rfl)
        try simp only [List.getElem_toArray, List.getElem_cons_succ, List.getElem_cons_zero, Act.put, List.setIfInBounds_toArray, List.set_cons_zero, List.set_cons_succ]
        refine He.wpE_take (i := 7) (v := ?_) rfl (by kernel_rfl) (by kernel_rfl) (by kernel_rfl) (by kernel_rfl) (by kernel_rfl) (fun _ _ _ h => h) (by rfl) ?_ (by assumption) ?_
        rotate_left
        · (intro w' hSw; (try dsimp only at hSw); go_simp; first | done | with_reducible rfl)
        try simp only [List.getElem_toArray, List.getElem_cons_succ, List.getElem_cons_zero, Act.put, List.setIfInBounds_toArray, List.set_cons_zero, List.set_cons_succ]
        refine He.wpE_one (i := 4) (by kernel_rfl) rfl (by rfl) (fun K hK => ?_)
        go_simp
        (with_reducible refine (C.out).mono ?_)
        rintro e w6 ⟨rfl, rfl⟩
        refine hK.out _ _ (fun _ => S0) ?_
        clear hK K C
        try simp only [Act.put, List.setIfInBounds_toArray, List.set_cons_zero, List.set_cons_succ]
        refine He.wpE_take (i := 8) (v := ?_) rfl (by kernel_rfl) (by kernel_rfl) (by kernel_rfl) (by kernel_rfl) (by kernel_rfl) (fun _ _ _ h => h) (by rfl) ?_ (by assumption) ?_
        rotate_left
        · (intro w' hSw; (try dsimp only at hSw); go_simp; first | done | with_reducible rfl)
        try simp only [List.getElem_toArray, List.getElem_cons_succ, List.getElem_cons_zero, Act.put, List.setIfInBounds_toArray, List.set_cons_zero, List.set_cons_succ]
        refine He.wpE_one (i := 9) (by kernel_rfl) rfl (by rfl) (fun K hK => ?_)
        go_simp
        refine hK.out _ _ (fun h => absurd rfl h) ?_
        clear hK K
        refine He.wpE_done (by kernel_rfl) ?_
        try simp only [Act.put, List.setIfInBounds_toArray, List.set_cons_zero, List.set_cons_succ]
        clear S0
        go_wp2_with fail
        go_roundw
        case rel => exact ⟨i + 1, _, _, _, _, by omega, by omega, by go_num, HSd.out, HBd.out⟩
        case measure => simp [intOf]; omega
    · have hno : ¬ ((i : Int) < l.length ∧ (i : Int) < 150) := by omega
      have HF := Lib.hid HS.out.md.below0
      by_cases h1 : i < l.length
      · have h1' : (i : Int) < l.length := by omega
        have h2' : ¬ (i : Int) < 150 := by omega
        go_wp2_with fail
        go_ret
        exact ⟨rfl, HF.out⟩
      · have h1' : ¬ (i : Int) < l.length := by omega
        go_wp2_with fail
        go_ret
        exact ⟨rfl, HF.out⟩
end Go.Proofs.Ytgmenlfhkhdbdaa.Nt
end
