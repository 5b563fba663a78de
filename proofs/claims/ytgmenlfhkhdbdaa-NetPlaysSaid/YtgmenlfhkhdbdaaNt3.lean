/- What a net tells when it is due: plain; what was told, in memory. -/
import Derived.Test.YtgmenlfhkhdbdaaNt2
import Derived.Test.YtgmenlfhkhdbdaaRa9
namespace Go.Proofs.Ytgmenlfhkhdbdaa.Nt
open Go.RowKit Mem Nm Ra
open Ag (It AgW AgT Keep insI woI dueI leftI hasI AddP)
set_option linter.unusedSimpArgs false
set_option linter.unusedVariables false
set_option maxRecDepth 100000

def msC (m : Ms) (v : Value) : List Value := [.int .i64 m.kind, .int .i64 m.frm, .int .i64 m.dst, .int .i64 m.term, .int .i64 m.index, .int .i64 m.lt, .int .i64 m.commit, .bool m.yes, v, .int .i64 m.si, .int .i64 m.st, .int .i64 m.sm, .string m.sx]
def rowsM (xs : List (Ms × Value)) : List Value := xs.flatMap (fun x => msC x.1 x.2)
theorem rowsM_snoc (xs : List (Ms × Value)) (x : Ms × Value) : rowsM (xs ++ [x]) = rowsM xs ++ msC x.1 x.2 := by simp [rowsM]
/-- Messages that were told: rows of their own. -/
structure OutW (base : Nat) (W : World) (v : Value) (xs : List (Ms × Value)) : Prop where
  own : W.ownsRow base 33 13 v xs.length (rowsM xs)
  ens : ∀ x ∈ xs, W.ownsRow base 77 4 x.2 x.1.es.length (rowsE x.1.es)
theorem own_ty {W : World} {base : Nat} {e : TypeId} {size : Nat} {v : Value} {n : Nat} {xs : List Value} (h : W.ownsRow base e size v n xs) : ∀ k, v.ownBlock = some k → ∃ cur, Blk W k cur e := fun k hk => Ag.own_blk h k hk
theorem OutW.nil (base : Nat) (W : World) : OutW base W (.slice none 0 0) [] := ⟨⟨rfl, .inl ⟨rfl, rfl⟩⟩, by simp⟩
/-- Blocks of messages and entries that stay. -/
def KpO (a b : World) : Prop := ∀ k cs ty, Blk a k cs ty → ty = 33 ∨ ty = 77 → Blk b k cs ty
theorem own_kp {a b : World} {base : Nat} {e : TypeId} {size : Nat} {v : Value} {n : Nat} {xs : List Value} (h : a.ownsRow base e size v n xs) (k : ∀ j cs, Blk a j cs e → Blk b j cs e) : b.ownsRow base e size v n xs := by
  obtain ⟨h0, ⟨rfl, h1⟩ | ⟨g, cap, cur, rfl, hg, hb, h2⟩⟩ := h
  · exact ⟨h0, .inl ⟨rfl, h1⟩⟩
  · exact ⟨h0, .inr ⟨g, cap, cur, rfl, hg, k _ _ hb, h2⟩⟩
theorem OutW.kp {base : Nat} {a b : World} {v : Value} {xs : List (Ms × Value)} (h : OutW base a v xs) (k : KpO a b) : OutW base b v xs :=
  ⟨own_kp h.own (fun j cs hb => k j cs _ hb (.inl rfl)), fun x hx => own_kp (h.ens x hx) (fun j cs hb => k j cs _ hb (.inr rfl))⟩
theorem KpO.mod {a b : World} (m : Mod a b []) : KpO a b := fun k cs ty h _ => h.mod m (by simp)
theorem KpO.map {a b : World} {g n : Nat} {T : Int → Option ByteArray} (hm : MapS a g n T) (m : Mod a b [g]) : KpO a b := fun k cs ty h _ => h.mod m (by
  rw [List.mem_singleton]
  rintro rfl
  exact hm.notBlk h rfl)
theorem OutW.app {base : Nat} {A B : World} {v v' : Value} {xs : List (Ms × Value)} {m : Ms} {u : Value} (h : OutW base A v xs) (hu : A.ownsRow base 77 4 u m.es.length (rowsE m.es)) (hg : A.grownBy B v.ownBlock) (ho : B.ownsRow base 33 13 v' (xs.length + 1) (rowsM xs ++ msC m u)) : OutW base B v' (xs ++ [(m, u)]) := by
  have hk : ∀ j cs, Blk A j cs 77 → Blk B j cs 77 := fun j cs hb => Rw.blk_grown hb hg (fun e => by
    obtain ⟨cur, hc⟩ := own_ty h.own j e.symm
    exact absurd (blk_uni hb hc) (by decide))
  refine ⟨by rw [List.length_append, rowsM_snoc]; exact ho, fun x hx => ?_⟩
  rcases List.mem_append.1 hx with hx | hx
  · exact own_kp (h.ens x hx) hk
  · rw [List.mem_singleton] at hx; subst hx; exact own_kp hu hk
theorem info_ms : (Try.prog.info? 33).map (fun i => (i.zero, i.size, i.bytes)) = some (some (.agg #[.int .i64 0, .int .i64 0, .int .i64 0, .int .i64 0, .int .i64 0, .int .i64 0, .int .i64 0, .bool false, .slice none 0 0, .int .i64 0, .int .i64 0, .int .i64 0, .string ⟨#[]⟩]), 13, 128) := by kernel_rfl
/-- What is told of items: their messages, but for who is cut off. -/
def outM (C : Nat → Nat → Bool) (M : Int → Option Ms) (l : List It) : List Ms := l.filterMap (fun s => match M s.2.1 with | some m => if C m.frm.toNat m.dst.toNat = true then none else some m | none => none)
def delL (M : Int → Option Ms) (l : List It) : Int → Option Ms := fun k => if (l.any (fun s => s.2.1 == k)) = true then none else M k
theorem delL_nil (M : Int → Option Ms) : delL M [] = M := by funext k; rfl
theorem delL_snoc (M : Int → Option Ms) (l : List It) (s : It) : delL M (l ++ [s]) = delM (delL M l) s.2.1 := by
  funext k
  unfold delL delM
  rw [List.any_append]
  by_cases h : k = s.2.1
  · subst h
    simp
  · have : (s.2.1 == k) = false := by simpa using (Ne.symm h)
    rw [if_neg h]
    simp only [List.any_cons, List.any_nil, this, Bool.or_false]
theorem outM_snoc (C : Nat → Nat → Bool) (M : Int → Option Ms) (l : List It) (s : It) (m : Ms) (h : M s.2.1 = some m) : outM C M (l ++ [s]) = if C m.frm.toNat m.dst.toNat = true then outM C M l else outM C M l ++ [m] := by
  unfold outM
  rw [List.filterMap_append]
  simp only [List.filterMap_cons, List.filterMap_nil, h]
  by_cases hc : C m.frm.toNat m.dst.toNat = true
  · rw [if_pos hc]; simp [hc]
  · rw [if_neg hc]; simp [hc]
theorem map_del (M : Int → Option Ms) (k : Int) : delT (fun j => (M j).map writeS) k = fun j => (delM M k j).map writeS := by
  funext j
  unfold delT delM
  by_cases e : j = k
  · rw [if_pos e, if_pos e]; rfl
  · rw [if_neg e, if_neg e]
end Go.Proofs.Ytgmenlfhkhdbdaa.Nt
