/- An agenda's methods: New, Len, First, Add. -/
import Derived.Test.YtgmenlfhkhdbdaaAg6
import Derived.Test.YtgmenlfhkhdbdaaAg7
namespace Go.Proofs.Ytgmenlfhkhdbdaa.Ag
open Go.RowKit Mem
set_option linter.unusedSimpArgs false
set_option linter.unusedVariables false
set_option maxRecDepth 100000

theorem blk_ne {w : World} {k : Nat} {cs cs' : Array Value} {t t' : TypeId} (h : Blk w k cs t) (h' : Blk w k cs' t') : t = t' := by
  unfold Blk at h h'
  rw [h] at h'
  injection h' with h'
  injection h' with _ h2 _
def AgT (t : TypeId) : Prop := t = 154 ∨ t = 102
/-- What is of no agenda's kind stays: maps too. -/
def Keep (a b : World) : Prop := ∀ (k : Nat) (o : Obj), a.heap[k]? = some o → (∀ cs ty, o = .cells cs ty (0, 0) → ¬ AgT ty) → b.heap[k]? = some o
theorem heap_lt {w : World} {k : Nat} {o : Obj} (h : w.heap[k]? = some o) : k < w.heap.size := (Array.getElem?_eq_some_iff.1 h).1
theorem Keep.of {a b : World} {R : List Nat} (m : Mod a b R) (h : ∀ k ∈ R, ∃ cs ty, Blk a k cs ty ∧ AgT ty) : Keep a b := fun k o hk ho => (m.block k (heap_lt hk) (fun hr => by
  obtain ⟨cs, ty, h1, h2⟩ := h k hr
  unfold Blk at h1
  rw [h1] at hk
  injection hk with hk
  exact ho _ _ hk.symm h2)).trans hk
theorem Keep.mod {a b : World} (m : Mod a b []) : Keep a b := Keep.of m (by simp)
theorem Keep.trans {a b c : World} (h1 : Keep a b) (h2 : Keep b c) : Keep a c := fun k o hk ho => h2 k o (h1 k o hk ho) ho
theorem Keep.blk {a b : World} (h : Keep a b) {k : Nat} {cs : Array Value} {t : TypeId} (hb : Blk a k cs t) (ht : ¬ AgT t) : Blk b k cs t := h k _ hb (fun cs' ty e => by injection e with _ e; subst e; exact ht)
theorem Keep.map {a b : World} (h : Keep a b) {k : Nat} {es : Array MapEntry} {cl : Nat} (hb : a.heap[k]? = some (.map es cl)) : b.heap[k]? = some (.map es cl) := h k _ hb (fun cs ty e => by cases e)
/-- An agenda in memory that holds S. -/
structure AgW (w0 w : World) (g : Nat) (last : Int) (S : List It) : Prop where
  md : Mod w0 w []
  gl : w0.heap.size ≤ g
  ok : Ok S last
  at_ : ∃ v h, PlAt w g v last h ∧ IsHeap h h.length ∧ h.Perm S
theorem AgW.mod {w0 a b : World} {g : Nat} {last : Int} {S : List It} (h : AgW w0 a g last S) (m : Mod a b []) : AgW w0 b g last S :=
  ⟨h.md.trans0 m, h.gl, h.ok, h.at_.elim fun v ⟨l, h1, h2, h3⟩ => ⟨v, l, h1.mod m (by simp) (by simp), h2, h3⟩⟩
theorem ag_step {w0 a b : World} {g : Nat} {last last' : Int} {S' h h' : List It} {v : Value} (hm : Mod w0 a []) (hg : w0.heap.size ≤ g) (hp : PlAt a g v last h) (ha : AgP g v last' h' a b) (hh : IsHeap h' h'.length) (hq : h'.Perm S') (ok : Ok S' last') : AgW w0 b g last' S' ∧ Keep a b := by
  obtain ⟨v', p', m', o'⟩ := ha
  refine ⟨⟨hm.trans m' (fun r hr => .inr ?_), hg, ok, v', h', p', hh, hq⟩, Keep.of m' (fun k hk => ?_)⟩
  · rcases List.mem_cons.1 hr with rfl | hr
    · exact hg
    · have := (hp.own r (by simpa using hr)).1; omega
  · rcases List.mem_cons.1 hk with rfl | hk
    · exact ⟨_, _, hp.1, .inl rfl⟩
    · obtain ⟨cur, hc⟩ := own_blk hp.2 k (by simpa using hk)
      exact ⟨_, _, hc, .inr rfl⟩

theorem new_calls (w : World) : Calls Try.prog 34 #[] w fun e w' => e = .returned (.pointer (some ⟨w.heap.size, 0, none⟩)) ∧ AgW w w' w.heap.size 0 [] ∧ Mod w w' [] := by
  have HF : Hid (AgW w (w.alloc (.cells #[.slice none 0 0, .int .i64 0] 154)) w.heap.size 0 []) := Lib.hid
    ⟨(Mod.refl _ _).alloc _, Nat.le_refl _, Ok.nil 0, .slice none 0 0, [], ⟨Blk.new _ _ _, World.ownsRow_nil _ _ _ _⟩, fun k h1 h2 => by simp at h2, List.Perm.refl _⟩
  go_enter Try.func34, Try.ntmps34
  go_wp2_with fail
  go_ret
  exact ⟨rfl, HF.out, (Mod.refl _ _).alloc _⟩

set_option maxHeartbeats 1000000 in
theorem alen_calls (w0 w : World) (g : Nat) (last : Int) (S : List It) (h : AgW w0 w g last S) :
    Calls Try.prog 41 #[.pointer (some ⟨g, 0, none⟩)] w fun e w' => e = .returned (.int .i64 (S.length : Int)) ∧ w = w' := by
  obtain ⟨v, l, h1, _, h3⟩ := h.at_
  have hl := h3.length_eq
  obtain ⟨a, c, rfl⟩ := h1.slice
  have b0 := h1.1.cell 0
  rw [hl] at b0
  clear h h1 h3 hl
  go_enter Try.func41, Try.ntmps41
  go_wp2_with fail
  go_ret
  exact ⟨rfl, rfl⟩
theorem alen_nil (w : World) : Calls Try.prog 41 #[.pointer none] w fun e w' => e = .returned (.int .i64 0) ∧ w = w' := by
  go_enter Try.func41, Try.ntmps41
  go_wp2_with fail
  go_ret
  exact ⟨rfl, rfl⟩

set_option maxHeartbeats 1000000 in
theorem first_nilp (w : World) : Calls Try.prog 80 #[.pointer none] w fun e w' => e = .returned (.tuple #[itV z0, .bool false]) ∧ Mod w w' [] := by
  go_enter Try.func80, Try.ntmps80
  go_wp2_with fail
  refine bodyPost_ret (v := .tuple #[itV z0, .bool false]) (by simp [results, Try.results80, go_sem, itV, z0]) rfl ⟨rfl, ?_⟩
  exact (Mod.refl _ _).alloc _
set_option maxHeartbeats 1000000 in
theorem first_empty (w0 w : World) (g : Nat) (last : Int) (h : AgW w0 w g last []) :
    Calls Try.prog 80 #[.pointer (some ⟨g, 0, none⟩)] w fun e w' => e = .returned (.tuple #[itV z0, .bool false]) ∧ Mod w w' [] := by
  obtain ⟨v, l, h1, _, h3⟩ := h.at_
  have hl := h3.length_eq
  obtain ⟨a, c, rfl⟩ := h1.slice
  have b0 := h1.1.cell 0
  have hg := h1.1.lt
  rw [hl] at b0
  clear h h1 h3 hl
  go_enter Try.func80, Try.ntmps80
  go_wp2_with fail
  refine bodyPost_ret (v := .tuple #[itV z0, .bool false]) (by simp [results, Try.results80, go_sem, itV, z0]) rfl ⟨rfl, ?_⟩
  exact (Mod.refl _ _).alloc _
set_option maxHeartbeats 1000000 in
theorem first_cons (w0 w : World) (g : Nat) (last : Int) (s : It) (S : List It) (h : AgW w0 w g last (s :: S)) (hn : S.length ≤ 90000) :
    Calls Try.prog 80 #[.pointer (some ⟨g, 0, none⟩)] w fun e w' => e = .returned (.tuple #[itV s, .bool true]) ∧ Mod w w' [] := by
  obtain ⟨v, l, h1, h2, h3⟩ := h.at_
  have hl : l.length = S.length + 1 := by rw [h3.length_eq]; rfl
  have hf := first_eq h2 h3 h.ok
  have hl0 : 0 < l.length := by omega
  rw [gt_eq hl0] at hf
  rcases h1.2.shape with ⟨_, h0⟩ | ⟨gb, cap, rfl, _, _, _, hgl, _, h4⟩
  · rw [h0] at hl; simp at hl
  · obtain ⟨c0, c1, c2⟩ := h4 0 hl0
    rw [hf] at c0 c1 c2
    have b0 := h1.1.cell 0
    have hg := h1.1.lt
    rw [hl] at b0
    obtain ⟨s1, s2, s3⟩ := s
    simp only [Nat.zero_mul] at c0 c1 c2
    clear h h1 h2 h3 h4 hf
    have hS : (0 : Int) < S.length + 1 := by omega
    have hS2 : ((S.length : Int) + 1 == 0) = false := by rw [beq_eq_false_iff_ne]; omega
    have hn' : (S.length : Int) ≤ 90000 := by omega
    show Calls _ _ _ _ fun e w' => e = .returned (.tuple #[.agg #[.int .i64 s1, .int .i64 s2, .int .i64 s3], .bool true]) ∧ _
    go_enter Try.func80, Try.ntmps80
    go_wp2_with fail
    refine bodyPost_ret (v := .tuple #[.agg #[.int .i64 s1, .int .i64 s2, .int .i64 s3], .bool true]) (by simp [results, Try.results80, go_sem]) rfl ⟨rfl, ?_⟩
    exact (Mod.refl _ _).alloc _

def AddP (w0 : World) (g : Nat) (last : Int) (S : List It) (at' what : Int) (w : World) (e : Ending) (w' : World) : Prop :=
  if 4096 ≤ S.length then e = .returned (.tuple #[.int .i64 0, .int .i64 7]) ∧ AgW w0 w' g last S ∧ Keep w w'
  else e = .returned (.tuple #[.int .i64 (last + 1), .int .i64 0]) ∧ AgW w0 w' g (last + 1) (insI S (at', last + 1, what)) ∧ Keep w w'
set_option maxHeartbeats 2000000 in
theorem add_calls (w0 w : World) (g : Nat) (last : Int) (S : List It) (at' what : Int) (h : AgW w0 w g last S) (hb : 0 ≤ last ∧ last ≤ 1000000000) (hn : S.length ≤ 4096) :
    Calls Try.prog 36 #[.pointer (some ⟨g, 0, none⟩), .int .i64 at', .int .i64 what] w (AddP w0 g last S at' what w) := by
  obtain ⟨v, l, h1, h2, h3⟩ := h.at_
  have hl := h3.length_eq
  obtain ⟨a, c, rfl⟩ := h1.slice
  have HW := Lib.hid h
  have HL := Lib.hid h1
  have b0 := h1.1.cell 0
  have b1 := h1.1.cell 1
  have b2 := h1.1.free 1
  have hg := h1.1.lt
  obtain ⟨hb1, hb2⟩ := hb
  have hl' : (l.length : Int) = S.length := by omega
  by_cases hf : 4096 ≤ S.length
  · have HF : Hid (∀ w', Mod w w' [] → AddP w0 g last S at' what w (.returned (.tuple #[.int .i64 0, .int .i64 7])) w') := Lib.hid (fun w' m => by
      unfold AddP; rw [if_pos hf]; exact ⟨rfl, HW.out.mod m, Keep.mod m⟩)
    have hf' : (4096 : Int) ≤ l.length := by omega
    clear h h1 h2 h3 hl hl' hf
    go_enter Try.func36, Try.ntmps36
    go_wp2_with fail
    go_ret2
    exact HF.out _ (Mod.refl _ _)
  · have hf' : (l.length : Int) < 4096 := by omega
    have hw1 := IntWalk.i64_in (last + 1) (by omega)
    have hms : Mod w (w.setCell ⟨g, 1, none⟩ (.int .i64 (last + 1))) [g] := (Mod.refl _ _).setCell (by simp) _
    have HP2 : Hid (PlAt (w.setCell ⟨g, 1, none⟩ (.int .i64 (last + 1))) g (.slice a l.length c) (last + 1) l) := Lib.hid ⟨by
      have := h1.1.set 1 (.int .i64 (last + 1))
      simpa using this, h1.2.mod hms (fun k hk => by have := (h1.own k hk).1; simp; omega)⟩
    have HPC := Lib.hid (hpush_calls g (.slice a l.length c) (last + 1) l (at', last + 1, what) _ HP2.out h2 (by omega))
    have HPC2 : Hid (Calls Try.prog 79 #[.iface 155 (.pointer (some ⟨g, 0, none⟩)), .iface 102 (.agg #[.int .i64 at', .int .i64 (last + 1), .int .i64 what])] (w.setCell ⟨g, 1, none⟩ (.int .i64 (last + 1))) _) := HPC
    have HF : Hid (∀ w', HpP g (.slice a l.length c) (last + 1) l (at', last + 1, what) (w.setCell ⟨g, 1, none⟩ (.int .i64 (last + 1))) w' → AddP w0 g last S at' what w (.returned (.tuple #[.int .i64 (last + 1), .int .i64 0])) w' ∧ w'.cell? ⟨g, 1, none⟩ = some (.int .i64 (last + 1))) := Lib.hid (fun w' hp => by
      obtain ⟨h', q1, q2, q3⟩ := hp
      have hq : h'.Perm (insI S (at', last + 1, what)) := q1.trans ((List.Perm.append_right _ h3).trans (ins_perm _ _).symm)
      have hmd : Mod w0 (w.setCell ⟨g, 1, none⟩ (.int .i64 (last + 1))) [] := HW.out.md.setCell (.inr HW.out.gl) _
      obtain ⟨k1, k2⟩ := ag_step hmd HW.out.gl HP2.out q3 q2 hq (ok_ins HW.out.ok rfl hb1)
      refine ⟨?_, ?_⟩
      · unfold AddP; rw [if_neg hf]
        exact ⟨rfl, k1, Keep.trans (Keep.of hms (fun k hk => by rw [List.mem_singleton] at hk; subst hk; exact ⟨_, _, HL.out.1, .inl rfl⟩)) k2⟩
      · obtain ⟨_, _, p1, _⟩ := k1.at_
        exact p1.1.cell 1)
    clear h h1 h2 h3 hl hl' hf hms HPC HW HL HP2
    go_enter Try.func36, Try.ntmps36
    go_wp2_with fail
    (with_reducible refine HPC2.out.mono ?_)
    rintro e w2 ⟨rfl, hp⟩
    obtain ⟨k1, k2⟩ := HF.out _ hp
    have HK := Lib.hid k1
    clear hp HF k1 b0 b1 b2
    go_wp2_with fail
    go_ret2
    exact HK.out
theorem add_nil (at' what : Int) (w : World) : Calls Try.prog 36 #[.pointer none, .int .i64 at', .int .i64 what] w fun e w' => e = .returned (.tuple #[.int .i64 0, .int .i64 1]) ∧ w = w' := by
  go_enter Try.func36, Try.ntmps36
  go_wp2_with fail
  go_ret2
  exact ⟨rfl, rfl⟩
end Go.Proofs.Ytgmenlfhkhdbdaa.Ag
