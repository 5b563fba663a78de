/- Books: the reference's Forget, Put, Read; its rows lie wherever P says. -/
import Derived.Test.YtceocpohdckkoaaBxO
namespace Go.Proofs.Ytceocpohdckkoaa.Bx
open Go.RowKit Mem Bits
set_option linter.unusedSimpArgs false
set_option linter.unusedVariables false
set_option maxRecDepth 100000

/-- A list of rows: which values they are. -/
def RrU (A : World) (v : Value) (us : List Value) : Prop :=
  ∃ ad cap, v = .slice ad us.length cap ∧ us.length ≤ cap ∧ (us = [] ∨ ∃ b off cs, ad = some ⟨b, off, none⟩ ∧ Blk A b cs tR ∧ ∀ i (h : i < us.length), A.cell? ⟨b, off + i, none⟩ = some us[i])
theorem RrU.kept {A B : World} {v : Value} {us : List Value} (h : RrU A v us) (k : KeptT (fun t => t = tR) A B) : RrU B v us := by
  obtain ⟨ad, cap, h1, h2, h3⟩ := h
  refine ⟨ad, cap, h1, h2, h3.imp id (fun ⟨b, off, cs, q1, q2, q3⟩ => ⟨b, off, cs, q1, k _ _ _ q2 rfl, fun i hi => ?_⟩)⟩
  rw [(k _ _ _ q2 rfl).cell, ← q2.cell]
  exact q3 i hi
def RP (P : Value → List Int → Prop) (A : World) (v : Value) (rows : List (List Int)) : Prop := ∃ us, RrU A v us ∧ All2 P us rows
theorem RP.kept {P : Value → List Int → Prop} {A B : World} {v : Value} {rows : List (List Int)} (h : RP P A v rows) (k : KeptT (fun t => t = tR) A B) : RP P B v rows := by
  obtain ⟨us, h1, h2⟩ := h
  exact ⟨us, h1.kept k, h2⟩
theorem keptT_mod {p : TypeId → Prop} {A B : World} (m : Mod A B []) : KeptT p A B := fun k cs ty h _ => (Kept.mod m).blk h
theorem RP.mod {P : Value → List Int → Prop} {A B : World} {v : Value} {rows : List (List Int)} (h : RP P A v rows) (m : Mod A B []) : RP P B v rows := h.kept (keptT_mod m)
theorem RP.slice {P : Value → List Int → Prop} {A : World} {v : Value} {rows : List (List Int)} (h : RP P A v rows) : ∃ a c, v = .slice a rows.length c ∧ rows.length ≤ c := by
  obtain ⟨us, ⟨ad, cap, h1, h2, _⟩, h4⟩ := h
  exact ⟨ad, cap, by rw [h1, all2_len h4], by rw [← all2_len h4]; exact h2⟩
theorem RP.at {P : Value → List Int → Prop} {N : Nat} {A : World} {v : Value} {rows : List (List Int)} (h : RP P A v rows) (hP : ∀ u xs, P u xs → IntsQ N A u xs) : RrAt N A v rows := by
  obtain ⟨us, ⟨ad, cap, h1, h2, h3⟩, h4⟩ := h
  have hl := all2_len h4
  refine ⟨ad, cap, us, by rw [h1, hl], by omega, all2_mono (fun u xs h => hP u xs h) h4, ?_⟩
  rcases h3 with rfl | h3
  · exact .inl (List.eq_nil_of_length_eq_zero hl.symm)
  · exact .inr h3
/-- What the reference's Put and Forget answer. -/
def RPutP (P : Value → List Int → Prop) (w : World) (R : Int × Int × List (List Int)) (e : Ending) (w' : World) : Prop :=
  Mod w w' [] ∧ ∃ v, e = .returned (.tuple #[.agg #[.int .i64 R.2.1, v], .int .i64 R.1]) ∧ RP P w' v R.2.2

set_option maxHeartbeats 8000000 in
theorem rforget_calls {P : Value → List Int → Prop} {w : World} (base : Int) (v : Value) (rows : List (List Int)) (h : RP P w v rows) (n : Int) (hb0 : 0 ≤ base) (hb1 : base ≤ 549755813888) (hl : rows.length ≤ 64) :
    Calls Try.prog 34 #[.agg #[.int .i64 base, v], .int .i64 n] w (RPutP P w (forgetS base rows n)) := by
  have H := Lib.hid h
  have hl' : (rows.length : Int) ≤ 64 := by omega
  have hwr : IntKind.i64.wrap (base + (rows.length : Int)) = base + (rows.length : Int) := IntWalk.i64_in _ (by omega)
  by_cases h0 : n < 0
  · have hr := Lib.hid (show forgetS base rows n = (1, base, rows) by unfold forgetS; rw [if_pos (.inl h0)])
    obtain ⟨va, vc, rfl, hvc⟩ := h.slice
    clear h
    go_enter Try.func34, Try.ntmps34
    go_wp2_with fail
    refine bodyPost_ret (v := .tuple #[.agg #[.int .i64 base, .slice va rows.length vc], .int .i64 1]) (by simp [results, Try.results34, go_sem]) rfl ?_
    rw [hr.out]
    exact ⟨((Mod.refl w []).alloc _).alloc _, _, rfl, H.out.mod (((Mod.refl w []).alloc _).alloc _)⟩
  by_cases h1 : base + (rows.length : Int) < n
  · have hr := Lib.hid (show forgetS base rows n = (1, base, rows) by unfold forgetS; rw [if_pos (.inr h1)])
    obtain ⟨va, vc, rfl, hvc⟩ := h.slice
    clear h
    go_enter Try.func34, Try.ntmps34
    go_wp2_with fail
    refine bodyPost_ret (v := .tuple #[.agg #[.int .i64 base, .slice va rows.length vc], .int .i64 1]) (by simp [results, Try.results34, go_sem]) rfl ?_
    rw [hr.out]
    exact ⟨((Mod.refl w []).alloc _).alloc _, _, rfl, H.out.mod (((Mod.refl w []).alloc _).alloc _)⟩
  by_cases h2 : n ≤ base
  · have hr := Lib.hid (show forgetS base rows n = (0, base, rows) by unfold forgetS; rw [if_neg (by omega), if_neg (by omega)])
    obtain ⟨va, vc, rfl, hvc⟩ := h.slice
    clear h
    go_enter Try.func34, Try.ntmps34
    go_wp2_with fail
    refine bodyPost_ret (v := .tuple #[.agg #[.int .i64 base, .slice va rows.length vc], .int .i64 0]) (by simp [results, Try.results34, go_sem]) rfl ?_
    rw [hr.out]
    exact ⟨((Mod.refl w []).alloc _).alloc _, _, rfl, H.out.mod (((Mod.refl w []).alloc _).alloc _)⟩
  have hr := Lib.hid (show forgetS base rows n = (0, n, rows.drop (n - base).toNat) by unfold forgetS; rw [if_neg (by omega), if_pos (by omega)])
  obtain ⟨k, hk⟩ : ∃ k : Nat, n - base = (k : Int) := ⟨(n - base).toNat, by omega⟩
  rw [hk, Int.toNat_natCast] at hr
  obtain ⟨us, ⟨ad, cap, rfl, hcap, hc⟩, hp⟩ := h
  have hlen := all2_len hp
  obtain ⟨b, off, cs, rfl, hb, hcell⟩ := hc.resolve_left (fun e => by rw [e] at hlen; simp at hlen; omega)
  have HP := Lib.hid hp
  have HC := Lib.hid hcell
  have HB := Lib.hid hb
  obtain ⟨L, hL⟩ : ∃ L, us.length = L := ⟨_, rfl⟩
  have HLL := Lib.hid hL
  rw [← hlen, hL] at hl' hwr h1 hl
  rw [hL] at hcap
  clear hb hcell hp hlen H hc
  rw [hL]
  clear hL
  have hkL : (k : Int) ≤ L := by omega
  have hk0 : (0 : Int) ≤ k := by omega
  have hcapL : (L : Int) ≤ cap := by omega
  have hnk : ¬ n ≤ base := h2
  have FIN : Hid (∀ (x : Option Addr) (c : Nat) (w' : World), Mod w w' [] → (L - k = 0 ∨ x = some ⟨b, off + k, none⟩) → L - k ≤ c → RP P w' (.slice x (L - k) c) (rows.drop k)) := Lib.hid (fun x c w' m hx hc => by
    have hd : (us.drop k).length = L - k := by rw [List.length_drop, HLL.out]
    refine RP.mod ⟨us.drop k, ⟨x, c, by rw [hd], by rw [hd]; exact hc, ?_⟩, all2_drop HP.out k⟩ m
    rcases hx with hx | rfl
    · exact .inl (List.eq_nil_of_length_eq_zero (by rw [hd]; exact hx))
    · refine .inr ⟨b, off + k, cs, rfl, HB.out, fun j hj => ?_⟩
      have := HC.out (k + j) (by rw [hd] at hj; rw [HLL.out]; omega)
      rw [Nat.add_assoc, this, List.getElem_drop])
  by_cases hz : cap = k
  · have hz0 : L - k = 0 := by omega
    obtain rfl : cap = k := hz
    obtain rfl : L = cap := by omega
    go_enter Try.func34, Try.ntmps34
    go_wp2_with fail
    refine bodyPost_ret (v := .tuple #[.agg #[.int .i64 n, .slice (some ⟨b, off, none⟩) 0 0], .int .i64 0]) (by simp [results, Try.results34, go_sem]) rfl ?_
    rw [hr.out]
    have f := FIN.out (some ⟨b, off, none⟩) 0 _ (((Mod.refl w []).alloc (.cells #[.int .i64 base, .slice (some ⟨b, off, none⟩) L L] 57)).alloc (.cells #[.int .i64 n, .slice (some ⟨b, off, none⟩) 0 0] 57)) (.inl hz0) (by omega)
    rw [hz0] at f
    exact ⟨((Mod.refl w []).alloc _).alloc _, _, rfl, f⟩
  · have hz2 : ¬ (cap : Int) = k := by omega
    have hz3 : ¬ k = cap := by omega
    have hz4 : ¬ cap ≤ k := by omega
    go_enter Try.func34, Try.ntmps34
    go_wp2_with fail
    refine bodyPost_ret (v := .tuple #[.agg #[.int .i64 n, .slice (some ⟨b, off + k, none⟩) (L - k) (cap - k)], .int .i64 0]) (by simp [results, Try.results34, go_sem]) rfl ?_
    rw [hr.out]
    exact ⟨((Mod.refl w []).alloc _).alloc _, _, rfl, FIN.out _ _ _ (((Mod.refl w []).alloc _).alloc _) (.inr rfl) (by omega)⟩
end Go.Proofs.Ytceocpohdckkoaa.Bx
