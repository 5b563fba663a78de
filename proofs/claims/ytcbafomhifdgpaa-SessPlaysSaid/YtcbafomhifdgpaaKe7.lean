/- The contracts of the law's Track (a track as the document has it) and of few. -/
import Derived.Test.YtcbafomhifdgpaaKe1
import Derived.Test.YtcbafomhifdgpaaRow
import Derived.Test.YtcbafomhifdgpaaQuiet
import Derived.Test.YtcbafomhifdgpaaHe
import Derived.Deep.RegionHeld3
namespace Go.Proofs.Ytcbafomhifdgpaa.Ke
open Go.RowKit Mem Bits
set_option linter.unusedSimpArgs false
set_option linter.unusedVariables false
set_option maxRecDepth 100000

abbrev runC' (x : Run × Value) : List Value := [.int .i64 x.1.b, .int .i64 x.1.st, .int .i64 x.1.s, .int .u64 x.1.seen, x.2]
def flatR (xs : List (Run × Value)) : List Value := (xs.map runC').flatten
theorem flatR_snoc (xs : List (Run × Value)) (x : Run × Value) : flatR (xs ++ [x]) = flatR xs ++ runC' x := by unfold flatR; simp
theorem runs_of_own {w : World} {base : Nat} {e : TypeId} {v : Value} {xs : List (Run × Value)} (h : w.ownsRow base e 5 v xs.length (flatR xs)) (hi : ∀ x ∈ xs, IntsAt w x.2 x.1.ps) : RunsAt w v (xs.map (·.1)) := by
  have h' : w.ownsRow base e 5 v (xs.map runC').length (xs.map runC').flatten := by rw [List.length_map]; exact h
  rcases Rw.own_rows h' (by intro r hr; obtain ⟨x, _, rfl⟩ := List.mem_map.1 hr; rfl) with ⟨rfl, h1⟩ | ⟨g, cap, rfl, h1, h2, h3, h4⟩
  · have : xs = [] := by simpa using h1
    subst this
    exact .inl ⟨rfl, none, 0, rfl⟩
  · rw [List.length_map] at *
    refine .inr ⟨g, 0, cap, by rw [List.length_map], by rw [List.length_map]; exact h2, h3, fun i hix => ?_⟩
    rw [List.length_map] at hix
    have hc := fun c hc => h4 i (by rw [List.length_map]; exact hix) c hc
    simp only [List.getElem_map] at hc ⊢
    refine ⟨?_, ?_, ?_, ?_, xs[i].2, ?_, hi _ (List.getElem_mem hix)⟩
    · have := hc 0 (by omega); rw [Nat.zero_add]; exact this
    · have := hc 1 (by omega); rw [Nat.zero_add]; exact this
    · have := hc 2 (by omega); rw [Nat.zero_add]; exact this
    · have := hc 3 (by omega); rw [Nat.zero_add]; exact this
    · have := hc 4 (by omega); rw [Nat.zero_add]; exact this
/-- The picks' values, told apart. -/
theorem runs_split {w : World} {v : Value} {l : List Run} (h : RunsAt w v l) : ∃ xs : List (Run × Value), xs.map (·.1) = l ∧ (∀ x ∈ xs, IntsAt w x.2 x.1.ps) ∧
    ((l = [] ∧ ∃ a cap, v = .slice a 0 cap) ∨ ∃ b off cap, v = .slice (some ⟨b, off, none⟩) xs.length cap ∧ xs.length ≤ cap ∧ cap ≤ maxLen ∧ ∀ i (hi : i < xs.length) c, c < 5 → w.cell? ⟨b, off + i * 5 + c, none⟩ = (runC' xs[i])[c]?) := by
  rcases h with ⟨rfl, h⟩ | ⟨b, off, cap, rfl, h1, h2, h3⟩
  · exact ⟨[], rfl, by simp, .inl ⟨rfl, h⟩⟩
  · obtain ⟨vs, hl, hv⟩ := Open.choose_rows (m := l.length) (fun i u => ∀ hi : i < l.length, w.cell? ⟨b, off + i * 5 + 4, none⟩ = some u ∧ IntsAt w u l[i].ps) (fun i hi => by
      obtain ⟨u, hu⟩ := (h3 i hi).c4
      exact ⟨u, fun _ => hu⟩)
    have hm : (l.zip vs).map (·.1) = l := by rw [List.map_fst_zip (by omega)]
    have hzl : (l.zip vs).length = l.length := by rw [List.length_zip]; omega
    refine ⟨l.zip vs, hm, fun x hx => ?_, .inr ⟨b, off, cap, by rw [hzl], by rw [hzl]; exact h1, h2, fun i hi c hc => ?_⟩⟩
    · obtain ⟨i, hi, rfl⟩ := List.getElem_of_mem hx
      rw [hzl] at hi
      have := (hv i (by omega) hi).2
      simpa using this
    · rw [hzl] at hi
      have h4 := h3 i hi
      have h5 := (hv i (by omega) hi).1
      simp only [List.getElem_zip]
      rcases (by omega : c = 0 ∨ c = 1 ∨ c = 2 ∨ c = 3 ∨ c = 4) with rfl | rfl | rfl | rfl | rfl
      · exact h4.c0
      · exact h4.c1
      · exact h4.c2
      · exact h4.c3
      · exact h5
theorem info_run : (Try.prog.info? 86).map (fun i => (i.zero, i.size, i.bytes)) = some (some (.agg #[.int .i64 0, .int .i64 0, .int .i64 0, .int .u64 0, .slice none 0 0]), 5, 56) := by kernel_rfl
end Go.Proofs.Ytcbafomhifdgpaa.Ke
