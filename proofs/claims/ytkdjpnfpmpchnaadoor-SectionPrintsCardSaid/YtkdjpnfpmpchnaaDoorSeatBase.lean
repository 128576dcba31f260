/- The seat's environment is sound. -/
import Derived.Test.YtkdjpnfpmpchnaaDoorSeatEnv
import Derived.Test.YtkdjpnfpmpchnaaDoorSimP
import Derived.WalkKit
import Derived.Lib.Builder
import Derived.Laws.Externs
namespace Go.Proofs.Sim.Se
open Go Go.Proofs Go.Proofs.Sim
set_option maxRecDepth 100000
theorem cc_used (b : Nat) (w : World) (h0 : w.cell? ⟨b, 0, none⟩ = some (.pointer (some ⟨b, 0, none⟩))) :
    Calls Tryd.prog fn_strings_Builder_copyCheck #[.pointer (some ⟨b, 0, none⟩)] w fun e w' => e = .returned (.tuple #[]) ∧ w' = w := by
  have u55 : Tryd.prog.underlying 55 = some (.pointer 58) := by kernel_rfl
  obtain ⟨j, hj, hjs⟩ := Option.map_eq_some_iff.1 (show (Tryd.prog.info? 58).map (·.size) = some 2 by kernel_rfl)
  go_enter Tryd.func53, Tryd.ntmps53
  go_wp2
  rw [Lib.run_neq_ptr_same w _ u55 hj]
  go_wp2
  go_end0
  exact ⟨rfl, rfl⟩
theorem cc_fresh (b : Nat) (w : World) (h0 : w.cell? ⟨b, 0, none⟩ = some (.pointer none)) (hsh : w.shape? b = some (58, 2)) (hfz : w.frozen? ⟨b, 0, none⟩ = false) :
    Calls Tryd.prog fn_strings_Builder_copyCheck #[.pointer (some ⟨b, 0, none⟩)] w fun e w' => e = .returned (.tuple #[]) ∧ w' = w.setCell ⟨b, 0, none⟩ (.pointer (some ⟨b, 0, none⟩)) := by
  have u55 : Tryd.prog.underlying 55 = some (.pointer 58) := by kernel_rfl
  have u96 : Tryd.prog.underlying 96 = some .unsafePointer := by kernel_rfl
  obtain ⟨j, hj, hjs⟩ := Option.map_eq_some_iff.1 (show (Tryd.prog.info? 58).map (·.size) = some 2 by kernel_rfl)
  go_enter Tryd.func53, Tryd.ntmps53
  go_wp2
  rw [Lib.run_to_unsafe w ⟨b, 0, none⟩ u55 u96 hj (by rw [hjs]; decide) hsh (Nat.zero_lt_succ 1)]
  simp only [Result.andThen]
  rw [Oper.upon_value]
  go_wp2
  rw [run_callFunc_extern Tryd.func66 (by kernel_rfl) (by kernel_rfl) (by kernel_rfl) (e := Extern.AbiNoEscape.same) (by kernel_rfl)]
  rw [Lib.run_noEscape]
  simp only [Result.andThen]
  rw [Oper.upon_value]
  go_wp2
  rw [Lib.run_from_unsafe w ⟨b, 0, none⟩ u96 u55 hj hsh (by kernel_rfl)]
  simp only [Result.andThen]
  rw [Oper.upon_value]
  go_wp2
  go_end0
  exact ⟨rfl, rfl⟩
theorem selfOK : ∀ f bt, E0.self f = some bt → SelfOK E0.P f bt := by
  intro f bt h
  have h : glkS self0 f = some bt := h
  simp only [self0, glkS] at h
  split at h
  · rename_i hf
    have : 53 = f := by simpa using hf
    subst this
    injection h with h
    subst h
    exact ⟨fun b w h0 => comes_of Tryd.func53 (by kernel_rfl) (by kernel_rfl) ((cc_used b w h0).mono fun e w' ⟨h1, h2⟩ => ⟨_, h1, rfl, h2⟩),
      fun b w h0 h1 h2 => comes_of Tryd.func53 (by kernel_rfl) (by kernel_rfl) ((cc_fresh b w h0 h1 h2).mono fun e w' ⟨h1, h2⟩ => ⟨_, h1, rfl, h2⟩)⟩
  · cases h
theorem oki_section_parts : FnOK E0.P 33 ai_section_parts.code 3 [.tmp 0] := fn_ok _ _ Tryd.f33 [] [0] _ 3 Tryd.func33 (by kernel_rfl) (by kernel_rfl) (by kernel_rfl) (by kernel_rfl)
theorem oki_section_parts_1 : FnOK E0.P 54 ai_section_parts_1.code 11 [.tmp 3] := fn_ok _ _ Tryd.f54 [] [3] _ 11 Tryd.func54 (by kernel_rfl) (by kernel_rfl) (by kernel_rfl) (by kernel_rfl)
theorem oki_digits_taker : FnOK E0.P 52 ai_digits_taker.code 5 [.tmp 2] := fn_ok _ _ Tryd.f52 [] [2] _ 5 Tryd.func52 (by kernel_rfl) (by kernel_rfl) (by kernel_rfl) (by kernel_rfl)
theorem oki_digits_taker_1 : FnOK E0.P 65 ai_digits_taker_1.code 23 [.tmp 2] := fn_ok _ _ Tryd.f65 [] [2] _ 23 Tryd.func65 (by kernel_rfl) (by kernel_rfl) (by kernel_rfl) (by kernel_rfl)
theorem oki_strings_Builder_WriteString : FnOK E0.P 32 ai_strings_Builder_WriteString.code 19 [.tmp 4, .tmp 5] := fn_ok _ _ Tryd.f32 [] [4, 5] _ 19 Tryd.func32 (by kernel_rfl) (by kernel_rfl) (by kernel_rfl) (by kernel_rfl)
theorem oki_strings_Builder_String : FnOK E0.P 35 ai_strings_Builder_String.code 14 [.tmp 2] := fn_ok _ _ Tryd.f35 [] [2] _ 14 Tryd.func35 (by kernel_rfl) (by kernel_rfl) (by kernel_rfl) (by kernel_rfl)
theorem oki_strings_Builder_Len : FnOK E0.P 60 ai_strings_Builder_Len.code 8 [.tmp 2] := fn_ok _ _ Tryd.f60 [] [2] _ 8 Tryd.func60 (by kernel_rfl) (by kernel_rfl) (by kernel_rfl) (by kernel_rfl)
theorem oki_section_reader_left : FnOK E0.P 41 ai_section_reader_left.code 12 [.tmp 2] := fn_ok _ _ Tryd.f41 [] [2] _ 12 Tryd.func41 (by kernel_rfl) (by kernel_rfl) (by kernel_rfl) (by kernel_rfl)
theorem inlOK : ∀ f ac nt rs, E0.inl f = some (ac, nt, rs) → FnOK E0.P f ac.code nt rs := by
  refine inl_ok inl0 fun x hx => ?_
  simp only [inl0, List.mem_cons, List.not_mem_nil, or_false] at hx
  rcases hx with rfl | rfl | rfl | rfl | rfl | rfl | rfl | rfl
  · exact oki_section_parts
  · exact oki_section_parts_1
  · exact oki_digits_taker
  · exact oki_digits_taker_1
  · exact oki_strings_Builder_WriteString
  · exact oki_strings_Builder_String
  · exact oki_strings_Builder_Len
  · exact oki_section_reader_left

theorem okE0 : EnvOK E0 := ⟨chkAll_ok _ _ (by kernel_rfl), by kernel_rfl, selfOK, inlOK⟩
theorem okE (nt : Nat) : EnvOK (envN E0 nt) := with_nt E0 okE0 nt
end Go.Proofs.Sim.Se
