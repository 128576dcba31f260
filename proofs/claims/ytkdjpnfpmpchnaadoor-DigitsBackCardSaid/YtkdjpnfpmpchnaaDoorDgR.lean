import Derived.Test.YtkdjpnfpmpchnaaDoorDg7
import Derived.Test.YtkdjpnfpmpchnaaDoorSimQ
import Derived.Test.YtkdjpnfpmpchnaaDoorCards
import Derived.Test.YtkdjpnfpmpchnaaDoorTie
import Derived.WalkKit
import Derived.ProofKit
import Derived.OpenShut
import Derived.Deep.DeepHandedRow
import Derived.Lib.LaidTab
import Derived.Stop.LaidErr
import Derived.ChangeMaps
namespace Go.Proofs.YtkdjpnfpmpchnaaDoor
open Go Go.ChangeShapes Go.WideShapes Go.ChangeAt Go.RowKit Go.Proofs.Sim
open Go.ChangeMaps (open_string shut_string)
set_option maxRecDepth 100000

theorem var_block {P : Program} {W : World} {n : String} {g : Nat} {cs : Array Value} (hg : P.globalNamed n = some g) (h : W.var? P n = some cs) : ∃ T fz, W.heap[g]? = some (.cells cs T fz) := by
  unfold World.var? at h
  rw [hg] at h
  simp only [Option.bind_some] at h
  split at h
  · rename_i c T fz hh; injection h with h; subst h; exact ⟨T, fz, hh⟩
  · cases h
theorem iface_laid {P : Program} {W : World} {n name : String} {d : DataW Unit} {r : List (String × DataW Unit)} {g ti : Nat} {ms : Array (String × TypeId)}
    (h : laidMet P ((n, .iface name d) :: r) W) (hg : P.globalNamed n = some g) (ht : (P.globals[g]?).map (·.type) = some ti) (hi : P.underlying ti = some (.interface ms)) : ∃ u v, W.cell? ⟨g, 0, none⟩ = some (.iface u v) := by
  obtain ⟨ps, ⟨g0, t0, cs0, f0, p0, q0, hg0, ht0, hv0, hd0, _, e0⟩, _, hrows⟩ := h
  obtain rfl := Option.some.inj (hg.symm.trans hg0)
  obtain rfl := Option.some.inj (ht.symm.trans ht0)
  obtain ⟨f1, u, v, e, _⟩ := iface_of_trod hi hd0
  obtain ⟨l⟩ := cs0
  obtain rfl : l = [.iface u v] := e
  exact ⟨u, v, by simpa using World.var?_cell hg0 hv0 0⟩
theorem tabs {W : World} (h : laidMetH Tryd.prog Rows.digitsPutsRow.laid W) : TabOK (fun b o => W.cell? ⟨b, o, none⟩) (fun b => W.heap[b]?) := by
  have h : laidMet Tryd.prog Rows.digitsPutsRow.laid W := h
  have h3 := laidMet.tail (laidMet.tail h)
  have h1 := laidMet.tail h3
  have h0 := laidMet.tail h1
  obtain ⟨u1, v1, e1⟩ := iface_laid (g := 1) (ti := 60) h1 (by kernel_rfl) (by kernel_rfl) Tryd.underlying60
  obtain ⟨u0, v0, e0⟩ := iface_laid (g := 0) (ti := 60) h0 (by kernel_rfl) (by kernel_rfl) Tryd.underlying60
  have ht : Lib.TabIs Tryd.prog W "internal/strconv.uint64pow10" .u64 Lib.pow10Tab :=
    Lib.tabIs_of_head (g := 3) (t := 126) (by kernel_rfl) (by kernel_rfl) Tryd.underlying126 Tryd.underlying101 (by kernel_rfl) (by kernel_rfl) h3
  obtain ⟨T, fz, e3⟩ := var_block (g := 3) (by kernel_rfl) ht
  refine ⟨fun gl cells hg j hj => ?_, fun gl vs hg => ?_⟩
  · match gl, hg with
    | 0, hg =>
      obtain rfl : [IV.ifc false] = cells := Option.some.inj hg
      obtain rfl : j = 0 := by simpa using hj
      exact ⟨_, e0, .iface _ _⟩
    | 1, hg =>
      obtain rfl : [IV.ifc false] = cells := Option.some.inj hg
      obtain rfl : j = 0 := by simpa using hj
      exact ⟨_, e1, .iface _ _⟩
    | n + 2, hg => exact absurd hg (by rw [show glk gtabs (n + 2) = none from rfl]; simp)
  · match gl, hg with
    | 3, hg =>
      obtain rfl : (Lib.pow10Tab.map fun z => Value.int .u64 z) = vs := Option.some.inj hg
      exact ⟨T, fz, e3⟩
    | 0, hg => exact absurd hg (by rw [show glkV gvals 0 = none from rfl]; simp)
    | 1, hg => exact absurd hg (by rw [show glkV gvals 1 = none from rfl]; simp)
    | 2, hg => exact absurd hg (by rw [show glkV gvals 2 = none from rfl]; simp)
    | n + 4, hg => exact absurd hg (by rw [show glkV gvals (n + 4) = none from rfl]; simp)
/-- A world for the witnesses. -/
noncomputable def low : Nat := (World.holding Tryd.prog default ⟨#[], #[], []⟩).heap.size
noncomputable def laidWorld (os : Os) : World :=
  let w0 := World.holding Tryd.prog os ⟨#[.cells #[.string ⟨#[105, 110, 118, 97, 108, 105, 100, 32, 115, 121, 110, 116, 97, 120]⟩] 133, .cells #[.string ⟨#[118, 97, 108, 117, 101, 32, 111, 117, 116, 32, 111, 102, 32, 114, 97, 110, 103, 101]⟩] 133], #[], []⟩
  let put (h : Array Obj) (g : Nat) (cs : Array Value) : Array Obj := h.modify g fun
    | .cells _ t frozen => .cells cs t frozen
    | o => o
  let h0 := put w0.heap 0 #[.iface 131 (.pointer (some ⟨low, 0, none⟩))]
  let h1 := put h0 1 #[.iface 131 (.pointer (some ⟨low + 1, 0, none⟩))]
  let h2 := put h1 3 (Lib.pow10Tab.map fun z => Value.int .u64 z).toArray
  let h3 := put h2 4 (#[0, 1, 28, 2, 29, 14, 24, 3, 30, 22, 20, 15, 25, 17, 4, 8, 31, 27, 13, 23, 21, 19, 16, 7, 26, 12, 18, 6, 11, 5, 10, 9].map fun z => Value.int .u8 z)
  let h4 := put h3 5 (#[0, 1, 56, 2, 57, 49, 28, 3, 61, 58, 42, 50, 38, 29, 17, 4, 62, 47, 59, 36, 45, 43, 51, 22, 53, 39, 33, 30, 24, 18, 12, 5, 63, 55, 48, 27, 60, 41, 37, 16, 46, 35, 44, 21, 52, 32, 23, 11, 54, 26, 40, 15, 34, 20, 31, 10, 25, 14, 19, 9, 13, 8, 7, 6].map fun z => Value.int .u8 z)
  { w0 with heap := h4 }
theorem laid_met (os : Os) (args : Array Value) : laidMet Tryd.prog Rows.digitsPutsRow.laid ((laidWorld os).forCall (fun _ _ => 0) ⟨#[], args, []⟩).memory :=
  laidMet_of_run' 8 (by kernel_rfl) (by kernel_rfl)
theorem own : ownKnob Tryd.prog.godebug = none := by kernel_rfl
theorem laidOut : laidOutB Tryd.prog = true := by kernel_rfl
end Go.Proofs.YtkdjpnfpmpchnaaDoor
