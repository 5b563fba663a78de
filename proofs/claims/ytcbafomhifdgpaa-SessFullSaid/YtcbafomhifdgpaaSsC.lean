/- Tables of sessions: Close. -/
import Derived.Test.YtcbafomhifdgpaaSsA
import Derived.Test.YtcbafomhifdgpaaSi5
namespace Go.Proofs.Ytcbafomhifdgpaa.Ss
open Go.RowKit Mem Si Bits
set_option linter.unusedSimpArgs false
set_option linter.unusedVariables false
set_option maxRecDepth 100000

def delL (l : List Sn) (id : Int) : List Sn := l.take (pos l id) ++ l.drop (pos l id + 1)
def closeL (l : List Sn) (id : Int) : List Sn × Int := if has l id = false then (l, 4) else (delL l id, 0)
theorem rowsC_del (l : List Sn) (i : Nat) (hi : i < l.length) : (rowsC l).take (i * 2) ++ (rowsC l).drop ((i + 1) * 2) = rowsC (l.take i ++ l.drop (i + 1)) := by
  rw [rowsC_take l i (by omega), rowsC_drop l (i + 1) (by omega), rowsC_append]

set_option maxHeartbeats 1000000 in
theorem close_calls (t : Nat) (v : Value) (l : List Sn) (id : Int) (w : World) (h : TabAt w t v l) (hn : l.length ≤ 1000) (hu : Up l) :
    Calls Try.prog 28 #[.pointer (some ⟨t, 0, none⟩), .int .i64 id] w fun e w' => e = .returned (.int .i64 (closeL l id).2) ∧ TabP t v (closeL l id).1 w w' := by
  have F := Lib.hid (find_calls t v l id w h hn hu)
  have HT := Lib.hid h
  obtain ⟨a, c, hv⟩ := Rw.own_slice h.2
  unfold closeL
  cases hh : has l id with
  | false =>
    rw [if_pos rfl]
    rw [hh] at F
    clear h hv
    go_enter Try.func28, Try.ntmps28
    go_wp2_with fail
    (with_reducible refine (F.out).mono ?_)
    rintro e w1 ⟨rfl, hm1⟩
    have HM1 := Lib.hid hm1
    clear hm1
    go_wp2_with fail
    go_ret
    exact ⟨rfl, TabP.same HT.out HM1.out⟩
  | true =>
    rw [if_neg (by simp)]
    rw [hh] at F
    obtain ⟨hp, _⟩ := has_pos hu hh
    have HRD := Lib.hid (rowsC_del l (pos l id) hp)
    have HL : Hid (delL l id = l.take (pos l id) ++ l.drop (pos l id + 1)) := Lib.hid rfl
    have hdl : (delL l id).length = l.length - 1 := by unfold delL; simp; omega
    have DC := Lib.hid (fun W (hr : RowsAt W (t + 1) v l) => del_calls (t + 1) l.length (pos l id) v (rowsC l) W hr hp hn (rowsC_one l))
    have hi' : (pos l id : Int) < l.length := by omega
    have hw1 : IntKind.i64.wrap ((pos l id : Int) + 1) = (pos l id : Int) + 1 := by rw [IntKind.wrap_i64]; omega
    generalize delL l id = l' at *
    generalize pos l id = p at *
    subst hv
    clear h
    go_enter Try.func28, Try.ntmps28
    go_wp2_with fail
    (with_reducible refine (F.out).mono ?_)
    rintro e w1 ⟨rfl, hm1⟩
    have HM1 := Lib.hid hm1
    have HT1 := Lib.hid (HT.out.mod hm1 (by simp) (by simp))
    have c0 := HT1.out.1.cell 0
    have DC1 := Lib.hid (DC.out _ HT1.out.2)
    clear hm1
    go_wp2_with fail
    (with_reducible refine (DC1.out).mono ?_)
    rintro e w2 ⟨v', rfl, hown, hgrow, hwh⟩
    have HO2 := Lib.hid hown
    have HG2 := Lib.hid hgrow
    have HW := Lib.hid hwh
    have HB2 := Lib.hid (Rw.blk_grown HT1.out.1 hgrow (fun e => by have := (HT1.out.own _ e.symm).1; omega))
    have d0 := HB2.out.cell 0
    have f0 := HB2.out.free 0
    clear hown hgrow hwh c0
    obtain ⟨a', c', hv'⟩ := Rw.own_slice HO2.out
    subst hv'
    go_wp2_with fail
    go_ret
    refine ⟨rfl, .slice a' (l.length - 1) c', ⟨?_, ?_⟩, ?_, fun k hk => .inl (HW.out ▸ hk)⟩
    · have := HB2.out.set 0 (.slice a' (l.length - 1) c')
      simpa using this
    · have h := HO2.out
      rw [HRD.out, ← HL.out] at h
      unfold RowsAt
      rw [hdl]
      exact own_mod h ((Mod.refl w2 [t]).setCell (by simp) _) (fun k hk => by have := own_ge HO2.out k hk; simp; omega)
    · exact (HM1.out.weak0.grown HG2.out (fun k hk => .inl (by rw [hk]; simp))).setCell (by simp) _
end Go.Proofs.Ytcbafomhifdgpaa.Ss
