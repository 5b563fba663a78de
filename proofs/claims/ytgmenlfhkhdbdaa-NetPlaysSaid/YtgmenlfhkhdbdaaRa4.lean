/- Messages: which may be: the program's functions. -/
import Derived.Test.YtgmenlfhkhdbdaaRa3
import Derived.Laws.StructEq
namespace Go.Proofs.Ytgmenlfhkhdbdaa.Ra
open Go.RowKit Mem Bits
set_option linter.unusedSimpArgs false
set_option linter.unusedVariables false
set_option maxRecDepth 100000

def noSn (i t m : Int) (s : ByteArray) : Bool := i == 0 && (t == 0 && (m == 0 && s.toList.isEmpty))
theorem sn_neq (i t m : Int) (s : ByteArray) (w : World) : (binOp .neq 31 (.agg #[.int .i64 i, .int .i64 t, .int .i64 m, .string s]) (.agg #[.int .i64 0, .int .i64 0, .int .i64 0, .string ⟨#[]⟩])).run Try.prog w = .ok (.bool (!noSn i t m s)) w := by
  have hS : Try.prog.underlying 31 = some (.struct (Try.prog.fieldsOf 31)) := by kernel_rfl
  have hp : Try.prog.stoodInHeld 31 = false := by kernel_rfl
  have u3 := Try.underlying3
  have u9 := Try.underlying9
  rw [run_neq_struct, show (10000 : Nat) = 9999 + 1 from rfl, run_equalIn_agg w 9999 31 _ _ hS hp]
  simp only [Program.fieldsOf, Try.underlying31]
  go_simp
  unfold noSn
  cases hs : s.toList.isEmpty <;> by_cases h1 : i = 0 <;> by_cases h2 : t = 0 <;> by_cases h3 : m = 0 <;> simp_all
/-- Has a message just what its kind names? -/
def fldB (kind : Int) (P L C Y E S : Bool) : Bool :=
  if kind = 1 then !C && (!Y && (!E && !S)) else if kind = 2 then !P && (!C && (!E && !S)) else if kind = 3 then !Y && !S else if kind = 4 then L && (!C && (!E && !S)) else if kind = 5 then !P && (!C && (!Y && !E)) else false
def fieldsB (m : Ms) : Bool := fldB m.kind (m.index != 0 || m.lt != 0) (m.lt == 0) (m.commit != 0) m.yes (decide (0 < m.es.length)) (!noSn m.si m.st m.sm m.sx)
set_option maxHeartbeats 16000000 in
theorem fields_calls (m : Ms) (ad : Option Addr) (cap : Nat) (w : World) (hn : m.es.length ≤ 100000) : Calls Try.prog 72 #[msV m (.slice ad m.es.length cap)] w fun e w' => e = .returned (.bool (fieldsB m)) ∧ Mod w w' [] := by
  have HFB : Hid (fieldsB m = fldB m.kind (m.index != 0 || m.lt != 0) (m.lt == 0) (m.commit != 0) m.yes (decide (0 < m.es.length)) (!noSn m.si m.st m.sm m.sx)) := Lib.hid rfl
  generalize fieldsB m = FB at *
  obtain ⟨kind, frm, to, term, index, lt, commit, yes, es, si, st, sm, sx⟩ := m
  simp only at hn HFB
  generalize es.length = n at *
  show Calls _ _ #[.agg #[.int .i64 kind, .int .i64 frm, .int .i64 to, .int .i64 term, .int .i64 index, .int .i64 lt, .int .i64 commit, .bool yes, .slice ad n cap, .int .i64 si, .int .i64 st, .int .i64 sm, .string sx]] _ _
  have HB := Lib.hid (Blk.new w #[.int .i64 kind, .int .i64 frm, .int .i64 to, .int .i64 term, .int .i64 index, .int .i64 lt, .int .i64 commit, .bool yes, .slice ad n cap, .int .i64 si, .int .i64 st, .int .i64 sm, .string sx] 33)
  have HM := Lib.hid ((Mod.refl w []).alloc (.cells #[.int .i64 kind, .int .i64 frm, .int .i64 to, .int .i64 term, .int .i64 index, .int .i64 lt, .int .i64 commit, .bool yes, .slice ad n cap, .int .i64 si, .int .i64 st, .int .i64 sm, .string sx] 33))
  have SN := sn_neq si st sm sx
  by_cases hi : index = 0
  · subst hi
    obtain ⟨P, hP⟩ : ∃ P, (lt != 0) = P := ⟨_, rfl⟩
    obtain ⟨C, hC⟩ : ∃ C, (commit != 0) = C := ⟨_, rfl⟩
    obtain ⟨E, hE⟩ : ∃ E, decide (0 < n) = E := ⟨_, rfl⟩
    obtain ⟨S, hS⟩ : ∃ S, (!noSn si st sm sx) = S := ⟨_, rfl⟩
    have HP : Hid (((0 : Int) != 0 || lt != 0) = P) := Lib.hid (by rw [hP]; rfl)
    have HC := Lib.hid hC
    have HE := Lib.hid hE
    have HS := Lib.hid hS
    go_enter Try.func72, Try.ntmps72
    go_wp2_with fail
    go_quiet (fail)
    clear hC hE hS hP
    have HB1 := Lib.hid (HB.out.drewN nq)
    have HM1 := Lib.hid (HM.out.drewN nq)
    clear HB HM SN
    generalize World.drewN _ nq = wq at *
    have k0 := HB1.out.cell 0
    have k5 := HB1.out.cell 5
    clear HB1
    by_cases k1 : kind = 1
    · subst k1
      cases C
      · cases yes
        · cases E
          · cases S
            · go_wp2_with fail
              go_ret
              exact ⟨ret_bool (by rw [HFB.out, HP.out, HC.out, HE.out, HS.out]; simp [fldB]), HM1.out⟩
            · go_wp2_with fail
              go_ret
              exact ⟨ret_bool (by rw [HFB.out, HP.out, HC.out, HE.out, HS.out]; simp [fldB]), HM1.out⟩
          · go_wp2_with fail
            go_ret
            exact ⟨ret_bool (by rw [HFB.out, HP.out, HC.out, HE.out, HS.out]; simp [fldB]), HM1.out⟩
        · go_wp2_with fail
          go_ret
          exact ⟨ret_bool (by rw [HFB.out, HP.out, HC.out, HE.out, HS.out]; simp [fldB]), HM1.out⟩
      · go_wp2_with fail
        go_ret
        exact ⟨ret_bool (by rw [HFB.out, HP.out, HC.out, HE.out, HS.out]; simp [fldB]), HM1.out⟩
    have k1b : (kind == 1) = false := by simpa using k1
    by_cases k2 : kind = 2
    · subst k2
      cases P
      · cases C
        · cases E
          · cases S
            · go_wp2_with fail
              go_ret
              exact ⟨ret_bool (by rw [HFB.out, HP.out, HC.out, HE.out, HS.out]; simp [fldB]), HM1.out⟩
            · go_wp2_with fail
              go_ret
              exact ⟨ret_bool (by rw [HFB.out, HP.out, HC.out, HE.out, HS.out]; simp [fldB]), HM1.out⟩
          · go_wp2_with fail
            go_ret
            exact ⟨ret_bool (by rw [HFB.out, HP.out, HC.out, HE.out, HS.out]; simp [fldB]), HM1.out⟩
        · go_wp2_with fail
          go_ret
          exact ⟨ret_bool (by rw [HFB.out, HP.out, HC.out, HE.out, HS.out]; simp [fldB]), HM1.out⟩
      · go_wp2_with fail
        go_ret
        exact ⟨ret_bool (by rw [HFB.out, HP.out, HC.out, HE.out, HS.out]; simp [fldB]), HM1.out⟩
    have k2b : (kind == 2) = false := by simpa using k2
    by_cases k3 : kind = 3
    · subst k3
      cases yes
      · cases S
        · go_wp2_with fail
          go_ret
          exact ⟨ret_bool (by rw [HFB.out, HP.out, HC.out, HE.out, HS.out]; simp [fldB]), HM1.out⟩
        · go_wp2_with fail
          go_ret
          exact ⟨ret_bool (by rw [HFB.out, HP.out, HC.out, HE.out, HS.out]; simp [fldB]), HM1.out⟩
      · go_wp2_with fail
        go_ret
        exact ⟨ret_bool (by rw [HFB.out, HP.out, HC.out, HE.out, HS.out]; simp [fldB]), HM1.out⟩
    have k3b : (kind == 3) = false := by simpa using k3
    by_cases k4 : kind = 4
    · subst k4
      by_cases hl : lt = 0
      · have hlb : (lt == 0) = true := by simpa using hl
        cases C
        · cases E
          · cases S
            · go_wp2_with fail
              go_ret
              exact ⟨ret_bool (by rw [HFB.out, HP.out, HC.out, HE.out, HS.out]; simp [fldB, hlb]), HM1.out⟩
            · go_wp2_with fail
              go_ret
              exact ⟨ret_bool (by rw [HFB.out, HP.out, HC.out, HE.out, HS.out]; simp [fldB, hlb]), HM1.out⟩
          · go_wp2_with fail
            go_ret
            exact ⟨ret_bool (by rw [HFB.out, HP.out, HC.out, HE.out, HS.out]; simp [fldB, hlb]), HM1.out⟩
        · go_wp2_with fail
          go_ret
          exact ⟨ret_bool (by rw [HFB.out, HP.out, HC.out, HE.out, HS.out]; simp [fldB, hlb]), HM1.out⟩
      · have hlb : (lt == 0) = false := by simpa using hl
        go_wp2_with fail
        go_ret
        exact ⟨ret_bool (by rw [HFB.out, HP.out, HC.out, HE.out, HS.out]; simp [fldB, hlb]), HM1.out⟩
    have k4b : (kind == 4) = false := by simpa using k4
    by_cases k5 : kind = 5
    · subst k5
      cases P
      · cases C
        · cases yes
          · cases E
            · go_wp2_with fail
              go_ret
              exact ⟨ret_bool (by rw [HFB.out, HP.out, HC.out, HE.out, HS.out]; simp [fldB]), HM1.out⟩
            · go_wp2_with fail
              go_ret
              exact ⟨ret_bool (by rw [HFB.out, HP.out, HC.out, HE.out, HS.out]; simp [fldB]), HM1.out⟩
          · go_wp2_with fail
            go_ret
            exact ⟨ret_bool (by rw [HFB.out, HP.out, HC.out, HE.out, HS.out]; simp [fldB]), HM1.out⟩
        · go_wp2_with fail
          go_ret
          exact ⟨ret_bool (by rw [HFB.out, HP.out, HC.out, HE.out, HS.out]; simp [fldB]), HM1.out⟩
      · go_wp2_with fail
        go_ret
        exact ⟨ret_bool (by rw [HFB.out, HP.out, HC.out, HE.out, HS.out]; simp [fldB]), HM1.out⟩
    have k5b : (kind == 5) = false := by simpa using k5
    go_wp2_with fail
    go_ret
    exact ⟨ret_bool (by rw [HFB.out, HP.out, HC.out, HE.out, HS.out]; simp [fldB, k1, k2, k3, k4, k5]), HM1.out⟩
  · have hib : (index == 0) = false := by simpa using hi
    have hib' : (index != 0) = true := by simpa using hi
    obtain ⟨C, hC⟩ : ∃ C, (commit != 0) = C := ⟨_, rfl⟩
    obtain ⟨E, hE⟩ : ∃ E, decide (0 < n) = E := ⟨_, rfl⟩
    obtain ⟨S, hS⟩ : ∃ S, (!noSn si st sm sx) = S := ⟨_, rfl⟩
    have HP : Hid ((index != 0 || lt != 0) = true) := Lib.hid (by rw [hib']; rfl)
    have HC := Lib.hid hC
    have HE := Lib.hid hE
    have HS := Lib.hid hS
    go_enter Try.func72, Try.ntmps72
    go_wp2_with fail
    go_quiet (fail)
    clear hC hE hS
    have HB1 := Lib.hid (HB.out.drewN nq)
    have HM1 := Lib.hid (HM.out.drewN nq)
    clear HB HM SN
    generalize World.drewN _ nq = wq at *
    have k0 := HB1.out.cell 0
    have k5 := HB1.out.cell 5
    clear HB1
    by_cases k1 : kind = 1
    · subst k1
      cases C
      · cases yes
        · cases E
          · cases S
            · go_wp2_with fail
              go_ret
              exact ⟨ret_bool (by rw [HFB.out, HP.out, HC.out, HE.out, HS.out]; simp [fldB]), HM1.out⟩
            · go_wp2_with fail
              go_ret
              exact ⟨ret_bool (by rw [HFB.out, HP.out, HC.out, HE.out, HS.out]; simp [fldB]), HM1.out⟩
          · go_wp2_with fail
            go_ret
            exact ⟨ret_bool (by rw [HFB.out, HP.out, HC.out, HE.out, HS.out]; simp [fldB]), HM1.out⟩
        · go_wp2_with fail
          go_ret
          exact ⟨ret_bool (by rw [HFB.out, HP.out, HC.out, HE.out, HS.out]; simp [fldB]), HM1.out⟩
      · go_wp2_with fail
        go_ret
        exact ⟨ret_bool (by rw [HFB.out, HP.out, HC.out, HE.out, HS.out]; simp [fldB]), HM1.out⟩
    have k1b : (kind == 1) = false := by simpa using k1
    by_cases k2 : kind = 2
    · subst k2
      go_wp2_with fail
      go_ret
      exact ⟨ret_bool (by rw [HFB.out, HP.out, HC.out, HE.out, HS.out]; simp [fldB]), HM1.out⟩
    have k2b : (kind == 2) = false := by simpa using k2
    by_cases k3 : kind = 3
    · subst k3
      cases yes
      · cases S
        · go_wp2_with fail
          go_ret
          exact ⟨ret_bool (by rw [HFB.out, HP.out, HC.out, HE.out, HS.out]; simp [fldB]), HM1.out⟩
        · go_wp2_with fail
          go_ret
          exact ⟨ret_bool (by rw [HFB.out, HP.out, HC.out, HE.out, HS.out]; simp [fldB]), HM1.out⟩
      · go_wp2_with fail
        go_ret
        exact ⟨ret_bool (by rw [HFB.out, HP.out, HC.out, HE.out, HS.out]; simp [fldB]), HM1.out⟩
    have k3b : (kind == 3) = false := by simpa using k3
    by_cases k4 : kind = 4
    · subst k4
      by_cases hl : lt = 0
      · have hlb : (lt == 0) = true := by simpa using hl
        cases C
        · cases E
          · cases S
            · go_wp2_with fail
              go_ret
              exact ⟨ret_bool (by rw [HFB.out, HP.out, HC.out, HE.out, HS.out]; simp [fldB, hlb]), HM1.out⟩
            · go_wp2_with fail
              go_ret
              exact ⟨ret_bool (by rw [HFB.out, HP.out, HC.out, HE.out, HS.out]; simp [fldB, hlb]), HM1.out⟩
          · go_wp2_with fail
            go_ret
            exact ⟨ret_bool (by rw [HFB.out, HP.out, HC.out, HE.out, HS.out]; simp [fldB, hlb]), HM1.out⟩
        · go_wp2_with fail
          go_ret
          exact ⟨ret_bool (by rw [HFB.out, HP.out, HC.out, HE.out, HS.out]; simp [fldB, hlb]), HM1.out⟩
      · have hlb : (lt == 0) = false := by simpa using hl
        go_wp2_with fail
        go_ret
        exact ⟨ret_bool (by rw [HFB.out, HP.out, HC.out, HE.out, HS.out]; simp [fldB, hlb]), HM1.out⟩
    have k4b : (kind == 4) = false := by simpa using k4
    by_cases k5 : kind = 5
    · subst k5
      go_wp2_with fail
      go_ret
      exact ⟨ret_bool (by rw [HFB.out, HP.out, HC.out, HE.out, HS.out]; simp [fldB]), HM1.out⟩
    have k5b : (kind == 5) = false := by simpa using k5
    go_wp2_with fail
    go_ret
    exact ⟨ret_bool (by rw [HFB.out, HP.out, HC.out, HE.out, HS.out]; simp [fldB, k1, k2, k3, k4, k5]), HM1.out⟩
end Go.Proofs.Ytgmenlfhkhdbdaa.Ra
