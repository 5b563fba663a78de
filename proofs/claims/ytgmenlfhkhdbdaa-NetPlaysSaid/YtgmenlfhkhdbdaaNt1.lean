/- A net in memory; New, Len. -/
import Derived.Test.YtgmenlfhkhdbdaaAnA
import Derived.Test.YtgmenlfhkhdbdaaNm
import Derived.Test.YtgmenlfhkhdbdaaRaA
namespace Go.Proofs.Ytgmenlfhkhdbdaa.Nt
open Go.RowKit Mem Nm Ra
open Ag (It AgW AgT Keep insI woI dueI leftI hasI AddP)
set_option linter.unusedSimpArgs false
set_option linter.unusedVariables false
set_option maxRecDepth 100000

abbrev tN : TypeId := 97
def netC (ag mb : Nat) (C : Nat → Nat → Bool) : Array Value := ([Value.pointer (some ⟨ag, 0, none⟩), Value.map (some mb)] ++ (List.range 49).map (fun i => Value.bool (C (i / 7) (i % 7)))).toArray
theorem netC_get (ag mb : Nat) (C : Nat → Nat → Bool) (f d : Nat) (hf : f < 7) (hd : d < 7) : (netC ag mb C)[2 + f * 7 + d]? = some (.bool (C f d)) := by
  unfold netC
  rw [List.getElem?_toArray, List.getElem?_append_right (by simp; omega), List.getElem?_map, List.getElem?_range (by simp; omega)]
  simp only [List.length_cons, List.length_nil, Option.map_some]
  rw [show (2 + f * 7 + d - (0 + 1 + 1)) / 7 = f by omega, show (2 + f * 7 + d - (0 + 1 + 1)) % 7 = d by omega]
def setC (C : Nat → Nat → Bool) (a b : Nat) (x : Bool) : Nat → Nat → Bool := fun i j => if i = a ∧ j = b then x else C i j
theorem netC_set (ag mb : Nat) (C : Nat → Nat → Bool) (f d : Nat) (hf : f < 7) (hd : d < 7) (x : Bool) : (netC ag mb C).setIfInBounds (2 + f * 7 + d) (.bool x) = netC ag mb (setC C f d x) := by
  apply Array.ext'
  apply List.ext_getElem?
  intro i
  unfold netC setC
  rw [Array.toList_setIfInBounds, List.getElem?_set]
  have hlen : ([Value.pointer (some ⟨ag, 0, none⟩), Value.map (some mb)] ++ (List.range 49).map (fun i => Value.bool (C (i / 7) (i % 7)))).length = 51 := by simp
  by_cases h1 : 2 + f * 7 + d = i
  · subst h1
    rw [if_pos rfl, if_pos (by simp; omega), List.getElem?_append_right (by simp; omega), List.getElem?_map, List.getElem?_range (by simp; omega)]
    simp only [List.length_cons, List.length_nil, Option.map_some]
    rw [if_pos (by omega)]
  · rw [if_neg h1]
    by_cases h2 : i < 2
    · rw [List.getElem?_append_left (by simpa using h2), List.getElem?_append_left (by simpa using h2)]
    · rw [List.getElem?_append_right (by simp; omega), List.getElem?_append_right (by simp; omega), List.getElem?_map, List.getElem?_map]
      simp only [List.length_cons, List.length_nil]
      by_cases h3 : i - (0 + 1 + 1) < 49
      · rw [List.getElem?_range h3]
        simp only [Option.map_some]
        rw [if_neg (by omega)]
      · rw [List.getElem?_eq_none (by simp; omega)]
        rfl
def setM (M : Int → Option Ms) (k : Int) (m : Ms) : Int → Option Ms := fun j => if j = k then some m else M j
def delM (M : Int → Option Ms) (k : Int) : Int → Option Ms := fun j => if j = k then none else M j
/-- A net in memory: what is under way is S, its messages M; who is cut off is C. -/
structure NetW (w0 W : World) (g ag mb : Nat) (last : Int) (S : List It) (n : Nat) (M : Int → Option Ms) (C : Nat → Nat → Bool) : Prop where
  md : Mod w0 W []
  g0 : w0.heap.size ≤ g
  m0 : w0.heap.size ≤ mb
  net : Blk W g (netC ag mb C) tN
  agw : AgW w0 W ag last S
  mp : MapS W mb n (fun k => (M k).map writeS)
  sl : S.length ≤ 4096
  ok : ∀ k m, M k = some m → checkB m = true
  ids : ∀ k, (M k).isSome = true ↔ ∃ s ∈ S, s.2.1 = k
/-- What is of no net's kind stays. -/
def KpN (a b : World) : Prop := ∀ k cs ty, Blk a k cs ty → ty ≠ tN → ¬ AgT ty → Blk b k cs ty
theorem KpN.mod {a b : World} (m : Mod a b []) : KpN a b := fun k cs ty h _ _ => h.mod m (by simp)
theorem KpN.trans {a b c : World} (h : KpN a b) (k : KpN b c) : KpN a c := fun i cs ty hb n1 n2 => k i cs ty (h i cs ty hb n1 n2) n1 n2
theorem KpN.map {a b : World} {g n : Nat} {T : Int → Option ByteArray} (hm : MapS a g n T) (m : Mod a b [g]) : KpN a b := fun k cs ty h _ _ => h.mod m (by
  rw [List.mem_singleton]
  rintro rfl
  exact hm.notBlk h rfl)
theorem KpN.net {a b : World} {g : Nat} {cs0 : Array Value} (hn : Blk a g cs0 tN) (m : Mod a b [g]) : KpN a b := fun k cs ty h n1 _ => h.mod m (by
  rw [List.mem_singleton]
  rintro rfl
  unfold Blk at h hn
  rw [h] at hn
  injection hn with hn
  injection hn with _ hn _
  exact n1 hn)
theorem KpN.ag {a b : World} (h : Keep a b) : KpN a b := fun k cs ty hb _ n2 => h.blk hb n2
theorem agw_modR {w0 a b : World} {g : Nat} {last : Int} {S : List It} {R : List Nat} (h : AgW w0 a g last S) (m : Mod a b R) (h1 : ∀ r ∈ R, w0.heap.size ≤ r) (h2 : ∀ r ∈ R, ∀ cs ty, Blk a r cs ty → ¬ AgT ty) : AgW w0 b g last S :=
  ⟨h.md.trans m (fun r hr => .inr (h1 r hr)), h.gl, h.ok, h.at_.elim fun v ⟨l, p1, p2, p3⟩ => ⟨v, l, p1.mod m (fun hg => h2 _ hg _ _ p1.1 (.inl rfl)) (fun k hk hr => by
    obtain ⟨cur, hc⟩ := Ag.own_blk p1.2 k hk
    exact h2 _ hr _ _ hc (.inr rfl)), p2, p3⟩⟩
theorem tN_ag : ¬ AgT tN := by rintro (h | h) <;> revert h <;> decide
section
variable {w0 A B : World} {g ag mb : Nat} {last : Int} {S : List It} {n : Nat} {M : Int → Option Ms} {C : Nat → Nat → Bool}
theorem NetW.mod (h : NetW w0 A g ag mb last S n M C) (m : Mod A B []) : NetW w0 B g ag mb last S n M C :=
  ⟨h.md.trans0 m, h.g0, h.m0, h.net.mod m (by simp), h.agw.mod m, h.mp.mod m (by simp), h.sl, h.ok, h.ids⟩
theorem NetW.mono (h : NetW w0 A g ag mb last S n M C) {n' : Nat} (hn : n ≤ n') : NetW w0 A g ag mb last S n' M C :=
  ⟨h.md, h.g0, h.m0, h.net, h.agw, h.mp.mono hn, h.sl, h.ok, h.ids⟩
theorem blk_uni {w : World} {k : Nat} {cs cs' : Array Value} {t t' : TypeId} (h : Blk w k cs t) (h' : Blk w k cs' t') : t = t' := by
  unfold Blk at h h'
  rw [h] at h'
  injection h' with h'
  injection h' with _ h2 _
/-- A text is laid. -/
theorem NetW.put (h : NetW w0 A g ag mb last S n M C) {n' : Nat} {M' : Int → Option Ms} {S' : List It} {last' : Int} {W1 : World} (ha : AgW w0 W1 ag last' S') (hk : Keep A W1) (hm : MapS B mb n' (fun k => (M' k).map writeS)) (m : Mod W1 B [mb]) (hs : S'.length ≤ 4096)
    (ho : ∀ k m, M' k = some m → checkB m = true) (hi : ∀ k, (M' k).isSome = true ↔ ∃ s ∈ S', s.2.1 = k) : NetW w0 B g ag mb last' S' n' M' C ∧ KpN A B := by
  have hmp : MapS W1 mb n (fun k => (M k).map writeS) := h.mp.same (fun es cl he => hk.map he)
  have hnet := hk.blk h.net tN_ag
  exact ⟨⟨ha.md.trans m (by intro r hr; simp only [List.mem_singleton] at hr; subst hr; exact .inr h.m0), h.g0, h.m0, hnet.mod m (by rw [List.mem_singleton]; exact (hmp.notBlk hnet).symm),
    agw_modR ha m (by intro r hr; simp only [List.mem_singleton] at hr; subst hr; exact h.m0) (by intro r hr cs ty hb; simp only [List.mem_singleton] at hr; subst hr; exact absurd rfl (hmp.notBlk hb)), hm, hs, ho, hi⟩, (KpN.ag hk).trans (KpN.map hmp m)⟩
/-- The agenda alone turned, and holds what it held. -/
theorem NetW.agSame (h : NetW w0 A g ag mb last S n M C) (ha : AgW w0 B ag last S) (hk : Keep A B) : NetW w0 B g ag mb last S n M C ∧ KpN A B :=
  ⟨⟨ha.md, h.g0, h.m0, hk.blk h.net tN_ag, ha, h.mp.same (fun es cl he => hk.map he), h.sl, h.ok, h.ids⟩, KpN.ag hk⟩
end
theorem time_calls (t : Int) (w : World) : Calls Try.prog 35 #[.int .i64 t] w fun e w' => e = .returned (.bool (ixB t)) ∧ w = w' := by
  by_cases h1 : 0 ≤ t
  · by_cases h2 : t ≤ 549755813888
    · rw [show ixB t = true from inB_t.2 ⟨h1, h2⟩]
      go_enter Try.func35, Try.ntmps35
      go_wp2_with fail
      go_ret
      exact ⟨Bits.ret_bool (by simp [h1, h2]), rfl⟩
    · rw [show ixB t = false from inB_f.2 (fun h => h2 h.2)]
      go_enter Try.func35, Try.ntmps35
      go_wp2_with fail
      go_ret
      exact ⟨Bits.ret_bool (by simp [h1, h2]), rfl⟩
  · rw [show ixB t = false from inB_f.2 (fun h => h1 h.1)]
    go_enter Try.func35, Try.ntmps35
    go_wp2_with fail
    go_ret
    exact ⟨Bits.ret_bool (by simp [h1]), rfl⟩
def ndB (t : Int) : Bool := inB t 0 6
theorem node_calls (t : Int) (w : World) : Calls Try.prog 39 #[.int .i64 t] w fun e w' => e = .returned (.bool (ndB t)) ∧ w = w' := by
  by_cases h1 : 0 ≤ t
  · by_cases h2 : t < 7
    · rw [show ndB t = true from inB_t.2 ⟨h1, by omega⟩]
      go_enter Try.func39, Try.ntmps39
      go_wp2_with fail
      go_ret
      exact ⟨Bits.ret_bool (by simp [h1, h2]), rfl⟩
    · rw [show ndB t = false from inB_f.2 (fun h => by omega)]
      go_enter Try.func39, Try.ntmps39
      go_wp2_with fail
      go_ret
      exact ⟨Bits.ret_bool (by simp [h1, h2]), rfl⟩
  · rw [show ndB t = false from inB_f.2 (fun h => h1 h.1)]
    go_enter Try.func39, Try.ntmps39
    go_wp2_with fail
    go_ret
    exact ⟨Bits.ret_bool (by simp [h1]), rfl⟩
theorem nnew_calls (w : World) : Calls Try.prog 10 #[] w fun e w' => ∃ g ag mb, e = .returned (.pointer (some ⟨g, 0, none⟩)) ∧ NetW w w' g ag mb 0 [] 0 (fun _ => none) (fun _ _ => false) ∧ Mod w w' [] := by
  have NC := Lib.hid (Ag.new_calls w)
  have hmm := @run_makeMap Try.prog
  go_enter Try.func10, Try.ntmps10
  go_wp2_with fail
  (with_reducible refine (NC.out).mono ?_)
  rintro e w1 ⟨rfl, ha, hm⟩
  have HA := Lib.hid ha
  have HM := Lib.hid hm
  clear ha hm NC
  have HF : Hid (NetW w ((w1.alloc (.map #[] 0)).alloc (.cells (netC w.heap.size w1.heap.size (fun _ _ => false)) tN)) (w1.heap.size + 1) w.heap.size w1.heap.size 0 [] 0 (fun _ => none) (fun _ _ => false)) := Lib.hid (by
    have hz := HM.out.size
    refine ⟨(HM.out.alloc _).alloc _, by omega, by omega, ?_, (HA.out.mod ((Mod.refl _ _).alloc _)).mod ((Mod.refl _ _).alloc _), (MapS.new w1).mod ((Mod.refl _ []).alloc _) (by simp), by simp, fun k m h => by simp at h, fun k => by simp⟩
    have := Blk.new (w1.alloc (.map #[] 0)) (netC w.heap.size w1.heap.size (fun _ _ => false)) tN
    rw [World.size_alloc] at this
    exact this)
  go_wp2_with fail
  go_ret
  exact ⟨_, _, _, rfl, HF.out, (HM.out.alloc _).alloc _⟩
theorem nlen_calls {w0 w : World} {g ag mb : Nat} {last : Int} {S : List It} {n : Nat} {M : Int → Option Ms} {C : Nat → Nat → Bool} (h : NetW w0 w g ag mb last S n M C) :
    Calls Try.prog 18 #[.pointer (some ⟨g, 0, none⟩)] w fun e w' => e = .returned (.int .i64 (S.length : Int)) ∧ w = w' := by
  have LC := Lib.hid (Ag.alen_calls w0 w ag last S h.agw)
  have c0 : w.cell? ⟨g, 0, none⟩ = some (.pointer (some ⟨ag, 0, none⟩)) := by rw [h.net.cell]; rfl
  clear h
  go_enter Try.func18, Try.ntmps18
  go_wp2_with fail
  (with_reducible refine (LC.out).mono ?_)
  rintro e w1 ⟨rfl, rfl⟩
  go_wp2_with fail
  go_ret
  exact ⟨rfl, rfl⟩
end Go.Proofs.Ytgmenlfhkhdbdaa.Nt
