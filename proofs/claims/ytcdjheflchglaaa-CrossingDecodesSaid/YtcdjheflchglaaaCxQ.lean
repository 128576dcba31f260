import Derived.Test.YtcdjheflchglaaaCxB
import Derived.Test.YtcdjheflchglaaaSimR
import Derived.Test.YtcdjheflchglaaaRows
import Derived.WalkKit
import Derived.ProofKit
import Derived.OpenShut
import Derived.Deep.DeepHandedRow
import Derived.Lib.LaidTab
import Derived.Stop.LaidErr
import Derived.ChangeMaps
/- Arguments as data. -/
namespace Go.Proofs.Ytcdjheflchglaaa
open Go Go.ChangeShapes Go.WideShapes Go.ChangeAt Go.RowKit Go.Proofs.Sim Go.Proofs.Sim.Se Go.Proofs.Sim.Va
open Go.ChangeMaps (open_string shut_string)
set_option maxRecDepth 100000

theorem tabs {W : World} : TabOK (fun b o => W.cell? ⟨b, o, none⟩) (fun b => W.heap[b]?) :=
  ⟨fun gl cells hg j hj => absurd hg (by rw [show glk gtabs gl = none from rfl]; simp), fun gl vs hg => absurd hg (by rw [show glkV gvals gl = none from rfl]; simp)⟩
/-- A world for the witnesses. -/
noncomputable def laidWorld (os : Os) : World := World.holding Try.prog os ⟨#[], #[], []⟩
theorem laid_met (os : Os) (args : Array Value) : laidMet Try.prog Rows.crossingEncodesRow.laid ((laidWorld os).forCall (fun _ _ => 0) ⟨#[], args, []⟩).memory :=
  laidMet_of_run' 8 (by kernel_rfl) (by kernel_rfl)
theorem own : ownKnob Try.prog.godebug = none := by kernel_rfl
theorem laidOut : laidOutB Try.prog = true := by kernel_rfl
/-! ### Rows as data -/
def rowTypes : List TypeId := [22, 61, 59, 3]
theorem rowTypes_ok : rowTypes.all (pureD Try.prog rowTypes) = true := by kernel_rfl
theorem entry_ty {l : List IV} (h : Ty Try.prog 59 l) : ∃ k a g : Int, l = [.int .i64 k, .int .i64 a, .int .i64 g] := by
  obtain ⟨ls, rfl, hl, hf⟩ := ty_struct Try.underlying59 h
  obtain ⟨k, e0, _⟩ := ty_int Try.underlying3 (hf 0 _ rfl)
  obtain ⟨a, e1, _⟩ := ty_int Try.underlying3 (hf 1 _ rfl)
  obtain ⟨g, e2, _⟩ := ty_int Try.underlying3 (hf 2 _ rfl)
  match ls, hl with
  | [l0, l1, l2], _ =>
    simp only [List.getD_cons_zero, List.getD_cons_succ] at e0 e1 e2
    subst e0 e1 e2
    exact ⟨k, a, g, rfl⟩
theorem row_ty {l : List IV} (h : Ty Try.prog 61 l) : ∃ r : R4, l = rowIV r := by
  obtain ⟨ls, rfl, hl, hf⟩ := ty_struct Try.underlying61 h
  obtain ⟨n, e0, _⟩ := ty_int Try.underlying3 (hf 0 _ rfl)
  obtain ⟨k, a, g, e1⟩ := entry_ty (hf 1 _ rfl)
  match ls, hl with
  | [l0, l1], _ =>
    simp only [List.getD_cons_zero, List.getD_cons_succ] at e0 e1
    subst e0 e1
    exact ⟨⟨n, k, a, g⟩, rfl⟩
theorem map_ty {α : Type} {f : α → List IV} {p : α → Prop} (rows : List (List IV)) (h : ∀ r ∈ rows, ∃ x : α, r = f x ∧ p x) : ∃ l : List α, rows = l.map f ∧ ∀ x ∈ l, p x := by
  induction rows with
  | nil => exact ⟨[], rfl, fun x hx => by cases hx⟩
  | cons r rows ih =>
    obtain ⟨l, rfl, hl⟩ := ih fun x hx => h x (by simp [hx])
    obtain ⟨x, rfl, hx⟩ := h r (by simp)
    refine ⟨x :: l, rfl, fun y hy => ?_⟩
    rcases List.mem_cons.1 hy with rfl | hy
    · exact hx
    · exact hl y hy
theorem slice_no_agg {P : Program} {W : World} {t e : TypeId} {v : Value} {base : Nat} (hu : P.underlying t = some (.slice e)) (h : Value.okWide P W .any base t v) : ∀ cs, v ≠ .agg cs := by
  intro cs hc
  subst hc
  simp [Value.okWide, hu, Cell.okWide, Cell.ok] at h
theorem open_rows {H : Type} {enc : TypeId × Value → H} {W : World} {base : Nat} {v : Value} {d : DataW H} {ps : List MemPlace} (hv : Value.okWide Try.prog W .any base 22 v) (h : DataW.Trod enc Try.prog W 0 (fun _ => true) true 22 v d ps) :
    ∃ l : List R4, RepI (fun b o => W.cell? ⟨b, o, none⟩) v (.sl .any 4 (rowsIV l)) := by
  obtain ⟨x, h1, h2⟩ := arg_of rowTypes rowTypes_ok (t := 22) (by decide) (slice_no_agg Try.underlying22 hv) h
  obtain ⟨rows, e, hr, _⟩ := ty_slice Try.underlying22 h2
  obtain ⟨l, rfl, _⟩ := map_ty (f := rowIV) (p := fun _ => True) rows fun r hr' => (row_ty (hr r hr')).imp fun x hx => ⟨hx, trivial⟩
  have e4 : Try.prog.cellsOf 61 = 4 := by kernel_rfl
  rw [e4] at e
  injection e with e
  subst e
  exact ⟨l, h1⟩
/-! ### Values as data -/
def valTypes : List TypeId := [24, 39, 37, 35, 9, 3]
theorem valTypes_ok : valTypes.all (pureD Try.prog valTypes) = true := by kernel_rfl
theorem wf64 {n : Int} (h : (Lit.int .i64 n).wf = true) : I64 n := by
  simp [Lit.wf, IntKind.min, IntKind.max, IntKind.signed, IntKind.bits] at h; exact ⟨by omega, by omega⟩
theorem c6 : Try.prog.cellsOf 37 = 6 := by kernel_rfl
theorem c7 : Try.prog.cellsOf 39 = 7 := by kernel_rfl
theorem val_ty {t : TypeId} {l : List IV} (h : Ty Try.prog t l) : (t = 37 → ∃ v : V, l = v.row ∧ Wf v) ∧ (t = 39 → ∃ p : Pr, l = pRow p ∧ (p.1.length ≤ 9223372036854775807 ∧ Wf p.2)) ∧
    (t = 35 → ∃ vs : List V, l = [.sl .any 6 (vs.map V.row)] ∧ vs.length ≤ 9223372036854775807 ∧ ∀ v ∈ vs, Wf v) ∧ (t = 24 → ∃ ps : List Pr, l = [.sl .any 7 (ps.map pRow)] ∧ ps.length ≤ 9223372036854775807 ∧ ∀ p ∈ ps, p.1.length ≤ 9223372036854775807 ∧ Wf p.2) := by
  have uV := Try.underlying37
  have uP := Try.underlying39
  have uVs := Try.underlying35
  have uPs := Try.underlying24
  induction h with
  | bool t b hu => refine ⟨fun e => ?_, fun e => ?_, fun e => ?_, fun e => ?_⟩ <;> subst e <;> simp_all
  | int t k n hu hw => refine ⟨fun e => ?_, fun e => ?_, fun e => ?_, fun e => ?_⟩ <;> subst e <;> simp_all
  | str t s hu hs => refine ⟨fun e => ?_, fun e => ?_, fun e => ?_, fun e => ?_⟩ <;> subst e <;> simp_all
  | sl t e rows hu hr hlen ih =>
    refine ⟨fun e' => ?_, fun e' => ?_, fun e' => ?_, fun e' => ?_⟩
    · subst e'; rw [uV] at hu; cases hu
    · subst e'; rw [uP] at hu; cases hu
    · subst e'
      rw [uVs] at hu
      injection hu with hu
      injection hu with hu
      subst hu
      obtain ⟨vs, rfl, hvs⟩ := map_ty (f := V.row) (p := Wf) rows fun r hr' => (ih r hr').1 rfl
      refine ⟨vs, by rw [c6], ?_, hvs⟩
      rw [List.length_map] at hlen
      exact hlen
    · subst e'
      rw [uPs] at hu
      injection hu with hu
      injection hu with hu
      subst hu
      obtain ⟨ps, rfl, hps⟩ := map_ty (f := pRow) (p := fun p : Pr => p.1.length ≤ 9223372036854775807 ∧ Wf p.2) rows fun r hr' => (ih r hr').2.1 rfl
      refine ⟨ps, by rw [c7], ?_, hps⟩
      rw [List.length_map] at hlen
      exact hlen
  | struct t fs ls hu hl hf ih =>
    refine ⟨fun e' => ?_, fun e' => ?_, fun e' => ?_, fun e' => ?_⟩
    · subst e'
      rw [uV] at hu
      injection hu with hu
      injection hu with hu
      subst hu
      obtain ⟨k, e0, w0⟩ := ty_int Try.underlying3 (hf 0 _ rfl)
      obtain ⟨n, e1, w1⟩ := ty_int Try.underlying3 (hf 1 _ rfl)
      obtain ⟨g, e2, w2⟩ := ty_int Try.underlying3 (hf 2 _ rfl)
      obtain ⟨s, e3, w3⟩ := ty_str Try.underlying9 (hf 3 _ rfl)
      obtain ⟨vs, e4, w4, w4'⟩ := (ih 4 _ rfl).2.2.1 rfl
      obtain ⟨ps, e5, w5, w5'⟩ := (ih 5 _ rfl).2.2.2 rfl
      match ls, hl with
      | [l0, l1, l2, l3, l4, l5], _ =>
        simp only [List.getD_cons_zero, List.getD_cons_succ] at e0 e1 e2 e3 e4 e5
        subst e0 e1 e2 e3 e4 e5
        refine ⟨.mk k n g s vs ps, ?_, .mk _ (wf64 w0) (wf64 w1) (wf64 w2) w3 w4 w5 w4' (fun p hp => (w5' p hp).1) (fun p hp => (w5' p hp).2)⟩
        rw [row_eq]; rfl
    · subst e'
      rw [uP] at hu
      injection hu with hu
      injection hu with hu
      subst hu
      obtain ⟨s, e0, w0⟩ := ty_str Try.underlying9 (hf 0 _ rfl)
      obtain ⟨v, e1, w1⟩ := (ih 1 _ rfl).1 rfl
      match ls, hl with
      | [l0, l1], _ =>
        simp only [List.getD_cons_zero, List.getD_cons_succ] at e0 e1
        subst e0 e1
        exact ⟨(s, v), by simp [pRow], w0, w1⟩
    · subst e'; rw [uVs] at hu; cases hu
    · subst e'; rw [uPs] at hu; cases hu
theorem open_pairs {H : Type} {enc : TypeId × Value → H} {W : World} {base : Nat} {v : Value} {d : DataW H} {ps : List MemPlace} (hv : Value.okWide Try.prog W .any base 24 v) (h : DataW.Trod enc Try.prog W 0 (fun _ => true) true 24 v d ps) :
    ∃ l : List Pr, RepI (fun b o => W.cell? ⟨b, o, none⟩) v (.sl .any 7 (prs l)) ∧ ∀ p ∈ l, Wf p.2 := by
  obtain ⟨x, h1, h2⟩ := arg_of valTypes valTypes_ok (t := 24) (by decide) (slice_no_agg Try.underlying24 hv) h
  obtain ⟨l, e, _, hl⟩ := (val_ty h2).2.2.2 rfl
  injection e with e
  subst e
  exact ⟨l, h1, fun p hp => (hl p hp).2⟩
end Go.Proofs.Ytcdjheflchglaaa

