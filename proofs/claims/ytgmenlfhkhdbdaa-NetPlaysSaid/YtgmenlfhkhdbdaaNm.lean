/- A map of texts by numbers, in memory: what it tells. -/
import Derived.Test.YtgmenlfhkhdbdaaBits5
import Derived.Maps.OwnSet
import Derived.Maps.StringElems
namespace Go.Proofs.Ytgmenlfhkhdbdaa.Nm
open Go.RowKit Mem Go.Maps
set_option linter.unusedSimpArgs false
set_option linter.unusedVariables false
set_option maxRecDepth 100000

abbrev mT : TypeId := 93
abbrev kT : TypeId := 3
abbrev eT : TypeId := 9
theorem keyed : Keyed Try.prog kT := int_keyed Try.underlying3
theorem zeroS (w : World) : (zeroValue eT).run Try.prog w = .ok (.string ⟨#[]⟩) w := by kernel_rfl
/-- Block b holds the texts T, by their numbers; at most n of them. -/
def MapS (w : World) (b n : Nat) (T : Int → Option ByteArray) : Prop :=
  ∃ D : DataW Unit, w.ownsMap Try.prog kT (plainElem Try.prog eT) b n D ∧ ∀ k : Int, -9223372036854775808 ≤ k → k ≤ 9223372036854775807 →
    Maps.has D (.int .i64 k) = (T k).isSome ∧ ∀ zd, D.atKey (.int .i64 k) zd = (match T k with | some s => .lit (.string s.data.toList) | none => zd)
theorem wf_k {k : Int} (h1 : -9223372036854775808 ≤ k) (h2 : k ≤ 9223372036854775807) : (Lit.int .i64 k).wf = true := WalkArith.wf_i64 (by omega)
theorem key_k {k : Int} (h1 : -9223372036854775808 ≤ k) (h2 : k ≤ 9223372036854775807) : keyOf Try.prog kT (.int .i64 k) = some (.int .i64 k) := keyOf_int_mk Try.underlying3 (wf_k h1 h2)
theorem keyLit (k : Int) : WideAt.IsKeyLit (.int .i64 k) := by trivial
theorem MapS.lt {w : World} {b n : Nat} {T : Int → Option ByteArray} (h : MapS w b n T) : b < w.heap.size := by obtain ⟨D, h, _⟩ := h; exact h.lt
theorem MapS.mono {w : World} {b n n' : Nat} {T : Int → Option ByteArray} (h : MapS w b n T) (hn : n ≤ n') : MapS w b n' T := by obtain ⟨D, h, h2⟩ := h; exact ⟨D, h.mono hn, h2⟩
theorem MapS.same {a b : World} {g n : Nat} {T : Int → Option ByteArray} (h : MapS a g n T) (hk : ∀ es cl, a.heap[g]? = some (.map es cl) → b.heap[g]? = some (.map es cl)) : MapS b g n T := by
  obtain ⟨D, ⟨es, cl, h1, h2⟩, h3⟩ := h
  exact ⟨D, ⟨es, cl, hk es cl h1, h2⟩, h3⟩
theorem MapS.mod {a b : World} {g n : Nat} {T : Int → Option ByteArray} {R : List Nat} (h : MapS a g n T) (m : Mod a b R) (hn : g ∉ R) : MapS b g n T :=
  h.same (fun es cl he => (m.block g h.lt hn).trans he)
theorem MapS.notBlk {w : World} {g n : Nat} {T : Int → Option ByteArray} (h : MapS w g n T) {k : Nat} {cs : Array Value} {t : TypeId} (hb : Blk w k cs t) : g ≠ k := by
  rintro rfl
  obtain ⟨D, ⟨es, cl, h1, _⟩, _⟩ := h
  unfold Blk at hb
  rw [h1] at hb
  cases hb
theorem MapS.new (w : World) : MapS (w.alloc (.map #[] 0)) w.heap.size 0 (fun _ => none) :=
  ⟨.map [], World.ownsMap_made _ _ _ _, fun k _ _ => ⟨rfl, fun zd => rfl⟩⟩
theorem mod_grown {a b : World} {g : Nat} (h : a.grownBy b (some g)) : Mod a b [g] := ⟨h.os, h.tape, h.output, h.size, fun k hk hn => h.block k hk (fun e => hn (by injection e with e; simp [e]))⟩
/-- 'm[k]'. -/
theorem MapS.look {w : World} {b n : Nat} {T : Int → Option ByteArray} (h : MapS w b n T) (k : Int) (h1 : -9223372036854775808 ≤ k) (h2 : k ≤ 9223372036854775807) :
    (Instr.lookup mT (.map (some b)) (.int .i64 k) false).run Try.prog w = .ok (.string ((T k).getD ⟨#[]⟩)) w := by
  obtain ⟨D, ho, hT⟩ := h
  obtain ⟨v, ps, hr, hv⟩ := ho.lookup keyed Try.underlying93 (zeroS w) (plainElem_string Try.underlying9 (by decide)) (key_k h1 h2)
  rw [(hT k h1 h2).2] at hv
  obtain ⟨s, rfl, hs, _⟩ := plainElem_string_inv Try.underlying9 hv
  rw [hr]
  injection hs with hs
  congr 2
  cases hk : T k with
  | none =>
    rw [hk] at hs
    injection hs with hs
    injection hs with hs
    apply ByteArray.ext; apply Array.ext'
    exact hs.symm
  | some x =>
    rw [hk] at hs
    injection hs with hs
    injection hs with hs
    apply ByteArray.ext; apply Array.ext'
    exact hs.symm
/-- 'v, ok := m[k]'. -/
theorem MapS.look_ok {w : World} {b n : Nat} {T : Int → Option ByteArray} (h : MapS w b n T) (k : Int) (h1 : -9223372036854775808 ≤ k) (h2 : k ≤ 9223372036854775807) :
    (Instr.lookup mT (.map (some b)) (.int .i64 k) true).run Try.prog w = .ok (.tuple #[.string ((T k).getD ⟨#[]⟩), .bool (T k).isSome]) w := by
  obtain ⟨D, ho, hT⟩ := h
  obtain ⟨v, ps, hr, hv⟩ := ho.look_ok keyed Try.underlying93 (zeroS w) (plainElem_string Try.underlying9 (by decide)) (key_k h1 h2)
  rw [(hT k h1 h2).2] at hv
  rw [(hT k h1 h2).1] at hr
  obtain ⟨s, rfl, hs, _⟩ := plainElem_string_inv Try.underlying9 hv
  rw [hr]
  injection hs with hs
  congr 5
  cases hk : T k with
  | none =>
    rw [hk] at hs
    injection hs with hs
    injection hs with hs
    apply ByteArray.ext; apply Array.ext'
    exact hs.symm
  | some x =>
    rw [hk] at hs
    injection hs with hs
    injection hs with hs
    apply ByteArray.ext; apply Array.ext'
    exact hs.symm
def setT (T : Int → Option ByteArray) (k : Int) (s : ByteArray) : Int → Option ByteArray := fun j => if j = k then some s else T j
def delT (T : Int → Option ByteArray) (k : Int) : Int → Option ByteArray := fun j => if j = k then none else T j
theorem ne_lit {j k : Int} (h : j ≠ k) : (Lit.int .i64 j) ≠ .int .i64 k := by intro e; injection e with _ e; exact h e
/-- 'm[k] = s'. -/
theorem MapS.store {w : World} {b n : Nat} {T : Int → Option ByteArray} (h : MapS w b n T) (hn : n < 1000000000) (k : Int) (h1 : -9223372036854775808 ≤ k) (h2 : k ≤ 9223372036854775807) (s : ByteArray) (hs : s.size ≤ 1000000000) :
    ∃ w', (Instr.mapUpdate mT (.map (some b)) (.int .i64 k) (.string s)).run Try.prog w = .ok () w' ∧ MapS w' b (n + 1) (setT T k s) ∧ Mod w w' [b] := by
  obtain ⟨D, ho, hT⟩ := h
  obtain ⟨w', hr, ho', hg⟩ := ho.update keyed Try.underlying93 (by unfold maxLen; omega) (key_k h1 h2) (plainElem_string Try.underlying9 (s := s) (by unfold maxLen; omega))
  refine ⟨w', hr, ⟨_, ho', fun j hj1 hj2 => ?_⟩, mod_grown hg⟩
  unfold setT
  by_cases e : j = k
  · subst e
    rw [if_pos rfl]
    exact ⟨has_put_same ho.isMap (keyLit j) _, fun zd => atKey_put_same ho.isMap (keyLit j) _ _⟩
  · rw [if_neg e]
    exact ⟨(has_put_other (ne_lit e) _).trans (hT j hj1 hj2).1, fun zd => (atKey_put_other (ne_lit e) _ _).trans ((hT j hj1 hj2).2 zd)⟩
/-- 'delete(m, k)'. -/
theorem MapS.drop {w : World} {b n : Nat} {T : Int → Option ByteArray} (h : MapS w b n T) (k : Int) (h1 : -9223372036854775808 ≤ k) (h2 : k ≤ 9223372036854775807) (ty : TypeId) :
    ∃ w', (Builtin.delete_ #[mT, kT] ty #[.map (some b), .int .i64 k]).run Try.prog w = .ok (.tuple #[]) w' ∧ MapS w' b n (delT T k) ∧ Mod w w' [b] := by
  obtain ⟨D, ho, hT⟩ := h
  obtain ⟨w', hr, ho', hg⟩ := ho.drop keyed Try.underlying93 (key_k h1 h2) ty
  refine ⟨w', hr, ⟨_, ho', fun j hj1 hj2 => ?_⟩, mod_grown hg.grown⟩
  unfold delT
  by_cases e : j = k
  · subst e
    rw [if_pos rfl]
    exact ⟨has_del_same, fun zd => atKey_del_same zd⟩
  · rw [if_neg e]
    exact ⟨(has_del_other (ne_lit e)).trans (hT j hj1 hj2).1, fun zd => (atKey_del_other (ne_lit e) zd).trans ((hT j hj1 hj2).2 zd)⟩
end Go.Proofs.Ytgmenlfhkhdbdaa.Nm
