import Derived.Test.YtcdjheflchglaaaDoorVsB
set_option linter.unusedVariables false
set_option linter.unusedSimpArgs false
namespace Go.Proofs.Sim.Se
open Go Go.Proofs Go.Proofs.Sim Go.Proofs.Sim.Va Go.Proofs.Sim.St

theorem uniq_len (l : List Pr) : (uniq l).length ≤ l.length := by
  have := (compact_sub (sortP l)).length_le
  rw [show (sortP l).length = l.length from srt_length ordK l] at this
  exact this
theorem zero_row : zero.row = [.int .i64 0, .int .i64 0, .int .i64 0, .str [], .sl .any 6 [], .sl .any 7 []] := by
  rw [row_eq]; rfl
end Go.Proofs.Sim.Se

set_option linter.unusedVariables false
set_option linter.unusedSimpArgs false
namespace Go.Proofs.Sim.Se
open Go Go.Proofs Go.Proofs.Sim Go.Proofs.Sim.Va Go.Proofs.Sim.St

theorem prow_at (ps : List Pr) (n : Nat) (h : n < ps.length) : (prs ps).getD n [] = pRow (pAt ps n) := by simp [List.getD_eq_getElem?_getD, h]
theorem insN_app (p : Pr) (X R : List Pr) (h : ∀ q ∈ X, bl p.1 q.1 = false) : insN p (X ++ R) = X ++ insN p R := by
  induction X with
  | nil => rfl
  | cons x X ih =>
    rw [List.cons_append, insN, h x (by simp), ih fun q hq => h q (by simp [hq])]
    rfl
theorem insN_len (p : Pr) (d : List Pr) : (insN p d).length = d.length + 1 := by
  induction d with
  | nil => rfl
  | cons x r ih =>
    rw [insN]; split <;> simp [ih]
theorem L_put (d : List Pr) (p : Pr) (hd : d.length ≤ 1000000000000) (K : Ex → St → Prop) (hR : d.any (fun q => q.1 == p.1) = true → K .ret ⟨[(4, .imm (.sl .any 7 (prs d)))], []⟩)
    (hE : ∀ (b : Bool) (out : List Pr), (d.any (fun q => q.1 == p.1) = false) → (if b then insN p d = out else (out = d ∧ insN p d = d ++ [p])) → K (.exit 0) ⟨[(3, (.ptr (Nm.loc (3 : Nat)) 0)), (5, (.own (Nm.loc (8 : Nat)))), (6, (.imm (.bool b)))], [((Nm.loc (3 : Nat)), (.blk ty_api_Pair [(.imm (.str (p.1))), (.imm (.int .i64 (p.2.k))), (.imm (.int .i64 (p.2.n))), (.imm (.int .i64 (p.2.g))), (.imm (.str p.2.s)), (.imm (.sl .any 6 (p.2.l.map V.row))), (.imm (.sl .any 7 (p.2.d.map pRow)))])), ((Nm.loc (8 : Nat)), (.arr 0 true 7 (prs out)))]⟩) :
    ∀ (R X : List Pr) (i : Nat) (b : Bool) (out : List Pr), d = X ++ R → i = X.length → (X.any (fun q => q.1 == p.1) = false) → (if b then insN p d = out ++ R else (out = X ∧ ∀ q ∈ X, bl p.1 q.1 = false)) →
    L_r16_put_4 (prs d) b i p.1 p.2.k p.2.n p.2.g p.2.s (p.2.l.map V.row) (p.2.d.map pRow) (prs out) K
  | [], X, i, b, out, hX, hi, ha, hb => by
    simp only [List.append_nil] at hX hb
    subst hX
    refine L_r16_put_4_of _ _ _ _ _ _ _ _ _ _ _ _ ⟨fun h => ?_, fun _ => hE b out ha ?_⟩
    · have := of_decide_eq_true h
      rw [prs_len] at this; omega
    · cases b with
      | true => exact hb
      | false =>
        obtain ⟨h1, h2⟩ := hb
        refine ⟨h1, ?_⟩
        have := insN_app p d [] h2
        simpa [insN] using this
  | x :: R, X, i, b, out, hX, hi, ha, hb => by
    have hlt : i < d.length := by rw [hX]; simp; omega
    have hx : pAt d i = x := by rw [hX]; exact pAt_mid _ _ _ _ hi
    have hr := prow_at d i hlt
    rw [hx] at hr
    have hxd : d = (X ++ [x]) ++ R := by rw [hX]; simp
    have g0 : gS (pRow x) 0 = x.1 := by rw [pRow_eq]; rfl
    have w : IntKind.i64.wrap ((i : Int) + 1) = ((i + 1 : Nat) : Int) := by rw [wrap_id _ (by omega) (by omega)]; simp
    have hol : out.length ≤ i + 1 := by
      cases b with
      | true =>
        have := congrArg List.length (show insN p d = out ++ (x :: R) from hb)
        rw [insN_len, hX] at this
        simp at this; omega
      | false => rw [hb.1]; omega
    refine L_r16_put_4_of _ _ _ _ _ _ _ _ _ _ _ _ ⟨fun _ => ?_, fun h => ?_⟩
    · simp only [Int.toNat_natCast]
      rw [hr, prs_len, g0]
      have rng : ((0 : Int) ≤ (i : Int) ∧ (i : Int) < (d.length : Int)) ∧ shOK [.str, .int .i64, .int .i64, .int .i64, .str, .sl 6 ty_api_Value, .sl 7 ty_api_Pair] (pRow x) = true := ⟨⟨by omega, by omega⟩, row_ok _ _ _⟩
      refine ⟨rng, ⟨fun he => hR ?_, fun he => ⟨fun _ => rng, Let.intro ?_⟩⟩⟩
      · rw [hX, List.any_append, List.any_cons, he]; simp
      have ha' : (X ++ [x]).any (fun q => q.1 == p.1) = false := by
        rw [List.any_append, ha, List.any_cons, he]; rfl
      -- the rest of one round
      have go : ∀ (b' : Bool) (o : List Pr), o.length ≤ i + 1 → (if b' then insN p d = (o ++ [x]) ++ R else (o ++ [x] = X ++ [x] ∧ ∀ q ∈ X ++ [x], bl p.1 q.1 = false)) →
          C_r16_put_13 (prs d) b' i p.1 p.2.k p.2.n p.2.g p.2.s (p.2.l.map V.row) (p.2.d.map pRow) (prs o) (K_r16_put_3 K) := by
        intro b' o hol' hb'
        refine C_r16_put_13_of _ _ _ _ _ _ _ _ _ _ _ _ ?_
        simp only [Int.toNat_natCast]
        rw [hr, row_form, prs_len, prs_len]
        refine ⟨rng, ⟨by constructor <;> omega, ?_⟩⟩
        refine K_r16_put_3_x0 _ _ _ _ _ _ _ _ _ _ _ _ (C_r16_put_14_of _ _ _ _ _ _ _ _ _ _ _ _ ?_)
        rw [w]
        refine K_r16_put_2_x0 _ _ _ _ _ _ _ _ _ _ _ _ ?_
        have e : prs o ++ [pRow x] = prs (o ++ [x]) := by simp [prs]
        rw [e]
        exact L_put d p hd K hR hE R (X ++ [x]) (i + 1) b' (o ++ [x]) hxd (by simp; omega) ha' hb'
      refine ⟨fun hl => ?_, fun hl => ?_⟩
      · have hb0 : b = false := by cases b <;> simp_all
        subst hb0
        have hl : bl p.1 x.1 = true := hl
        have e : prs out ++ [[.str p.1, .int .i64 p.2.k, .int .i64 p.2.n, .int .i64 p.2.g, .str p.2.s, .sl .any 6 (p.2.l.map V.row), .sl .any 7 (p.2.d.map pRow)]] = prs (out ++ [p]) := by
          rw [← pRow_eq]; simp [prs]
        rw [e, prs_len]
        refine ⟨by constructor <;> omega, go true (out ++ [p]) (by rw [hb.1]; simp; omega) ?_⟩
        show insN p d = _
        rw [hX, insN_app p X _ hb.2, hb.1, insN, hl]
        simp
      · refine go b out hol ?_
        cases b with
        | true =>
          have hb : insN p d = out ++ (x :: R) := hb
          show insN p d = _
          rw [hb]; simp
        | false =>
          have hl : bl p.1 x.1 = false := hl
          refine ⟨by rw [hb.1], fun q hq => ?_⟩
          rcases List.mem_append.1 hq with hq | hq
          · exact hb.2 q hq
          · rw [List.mem_singleton] at hq; rw [hq]; exact hl
    · have := of_decide_eq_false h
      rw [prs_len] at this; omega
theorem S_put (d : List Pr) (p : Pr) (hd : d.length ≤ 1000000000000) : Call E0.P fn_r16_put [.imm (.sl .any 7 (prs d)), .imm (.agg (pRow p))] [] (Is (.imm (.sl .any 7 (prs (put d p)))) []) := by
  rw [pRow_eq]
  refine F_r16_put_of _ _ _ _ _ _ _ _ _ ?_
  refine L_put d p hd _ (fun h => ?_) (fun b out ha hb => ?_) d [] 0 false [] rfl rfl rfl ⟨rfl, by simp⟩
  · refine K_r16_put_1_x0 _ _ ?_
    rw [Va.put, h]; exact ⟨rfl, rfl⟩
  · refine K_r16_put_1_x1 _ _ _ _ _ _ _ _ _ _ (C_r16_put_15_of _ _ _ _ _ _ _ _ _ _ ⟨fun hn => ?_, fun hn => ?_⟩)
    · have hb0 : b = false := by cases b <;> simp_all
      subst hb0
      obtain ⟨h1, h2⟩ := hb
      subst h1
      have e : prs out ++ [[.str p.1, .int .i64 p.2.k, .int .i64 p.2.n, .int .i64 p.2.g, .str p.2.s, .sl .any 6 (p.2.l.map V.row), .sl .any 7 (p.2.d.map pRow)]] = prs (insN p out) := by
        rw [← pRow_eq, h2]; simp [prs]
      rw [e, prs_len]
      refine ⟨by constructor <;> omega, K_r16_put_0_x0 _ _ ?_⟩
      rw [Va.put, ha]; exact ⟨rfl, rfl⟩
    · have hb0 : b = true := by cases b <;> simp_all
      subst hb0
      have hb : insN p d = out := hb
      refine K_r16_put_0_x0 _ _ ?_
      rw [Va.put, ha, ← hb]; exact ⟨rfl, rfl⟩
abbrev RPlainAt (v : V) : Prop := Call E0.P fn_r16_Plain [.imm (.agg v.row)] [] (Is (.imm (.agg v.plain.row)) [])
theorem foldput_len (l : List Pr) : (l.foldl put []).length ≤ l.length := by rw [put_uniq]; exact uniq_len l
theorem L_rp1 (d : List Pr) (hd : d.length ≤ 1000000000000) (ih : ∀ p ∈ d, RPlainAt p.2) (K : Ex → St → Prop) (hE : K (.exit 0) ⟨[(3, (.imm (.sl .any 7 (prs ((plP d).foldl put [])))))], []⟩) :
    ∀ (R X : List Pr) (i : Nat), d = X ++ R → i = X.length → L_r16_pairs_3 (prs d) i (prs ((plP X).foldl put [])) K
  | [], X, i, hX, hi => by
    simp only [List.append_nil] at hX
    subst hX
    refine L_r16_pairs_3_of _ _ _ _ ⟨fun h => ?_, fun _ => hE⟩
    have := of_decide_eq_true h
    rw [prs_len] at this; omega
  | x :: R, X, i, hX, hi => by
    have hlt : i < d.length := by rw [hX]; simp; omega
    have hx : pAt d i = x := by rw [hX]; exact pAt_mid _ _ _ _ hi
    have hr := prow_at d i hlt
    rw [hx] at hr
    have w : IntKind.i64.wrap ((i : Int) + 1) = ((i + 1 : Nat) : Int) := by rw [wrap_id _ (by omega) (by omega)]; simp
    refine L_r16_pairs_3_of _ _ _ _ ⟨fun _ => ?_, fun h => ?_⟩
    · simp only [Int.toNat_natCast]
      rw [hr, prs_len, prow_tail, w]
      have rng : ((0 : Int) ≤ (i : Int) ∧ (i : Int) < (d.length : Int)) ∧ shOK [.str, .int .i64, .int .i64, .int .i64, .str, .sl 6 ty_api_Value, .sl 7 ty_api_Pair] (pRow x) = true := ⟨⟨by omega, by omega⟩, row_ok _ _ _⟩
      refine ⟨rng, ⟨rng, ?_⟩⟩
      refine Call.use (ih x (by rw [hX]; simp)) ⟨⟨rfl, ?_⟩, ?_⟩
      · rw [vres, vrow_form]
      rw [vres, prow_join]
      have hl := foldput_len (plP X)
      have hl2 : (plP X).length = X.length := by simp [plP]
      refine Call.use (S_put _ _ (by omega)) ⟨⟨rfl, rfl⟩, ?_⟩
      have e : put ((plP X).foldl put []) (x.1, x.2.plain) = (plP (X ++ [x])).foldl put [] := by simp [plP, List.foldl_append]
      rw [e]
      exact L_rp1 d hd ih K hE R (X ++ [x]) (i + 1) (by rw [hX]; simp) (by simp; omega)
    · have := of_decide_eq_false h
      rw [prs_len] at this; omega
theorem L_rp2 (d : List Pr) (hd : d.length ≤ 1000000000000) (K : Ex → St → Prop) (hE : K (.exit 2) ⟨[(5, (.own (Nm.loc (28 : Nat))))], [((Nm.loc (28 : Nat)), (.arr 0 true 7 (prs (d.filter nul))))]⟩) :
    ∀ (R X : List Pr) (i : Nat), d = X ++ R → i = X.length → L_r16_pairs_11 i (prs d) (prs (X.filter nul)) K
  | [], X, i, hX, hi => by
    simp only [List.append_nil] at hX
    subst hX
    refine L_r16_pairs_11_of _ _ _ _ ⟨fun h => ?_, fun _ => hE⟩
    have := of_decide_eq_true h
    rw [prs_len] at this; omega
  | x :: R, X, i, hX, hi => by
    have hlt : i < d.length := by rw [hX]; simp; omega
    have hx : pAt d i = x := by rw [hX]; exact pAt_mid _ _ _ _ hi
    have hr := prow_at d i hlt
    rw [hx] at hr
    have g1 : gI (pRow x) 1 = x.2.k := by rw [pRow_eq]; rfl
    have w : IntKind.i64.wrap ((i : Int) + 1) = ((i + 1 : Nat) : Int) := by rw [wrap_id _ (by omega) (by omega)]; simp
    have hfl : (X.filter nul).length ≤ X.length := List.length_filter_le _ _
    refine L_r16_pairs_11_of _ _ _ _ ⟨fun _ => ?_, fun h => ?_⟩
    · rw [show (prs d).getD (Int.toNat (i : Int)) [] = pRow x from hr, prs_len, prs_len, row_form, g1]
      have rng : ((0 : Int) ≤ (i : Int) ∧ (i : Int) < (d.length : Int)) ∧ shOK [.str, .int .i64, .int .i64, .int .i64, .str, .sl 6 ty_api_Value, .sl 7 ty_api_Pair] (pRow x) = true := ⟨⟨by omega, by omega⟩, row_ok _ _ _⟩
      refine ⟨rng, ⟨fun hk => ⟨rng, ⟨by constructor <;> omega, ?_⟩⟩, fun hk => ?_⟩⟩
      · have hk : nul x = true := hk
        have e : prs (X.filter nul) ++ [pRow x] = prs ((X ++ [x]).filter nul) := by rw [List.filter_append]; simp [hk, prs]
        refine C_r16_pairs_16_of _ _ _ _ ?_
        rw [w, e]
        exact K_r16_pairs_4_x0 _ _ _ _ (L_rp2 d hd K hE R (X ++ [x]) (i + 1) (by rw [hX]; simp) (by simp; omega))
      · have hk : nul x = false := hk
        have e : prs (X.filter nul) = prs ((X ++ [x]).filter nul) := by rw [List.filter_append]; simp [hk, prs]
        refine C_r16_pairs_16_of _ _ _ _ ?_
        rw [w, e]
        exact K_r16_pairs_4_x0 _ _ _ _ (L_rp2 d hd K hE R (X ++ [x]) (i + 1) (by rw [hX]; simp) (by simp; omega))
    · have := of_decide_eq_false h
      rw [prs_len] at this; omega
theorem S_rpairs (d : List Pr) (hd : d.length ≤ 1000000000000) (ih : ∀ p ∈ d, RPlainAt p.2) : Call E0.P fn_r16_pairs [.imm (.sl .any 7 (prs d))] [] (Is (.imm (.sl .any 7 (prs (plD d)))) []) := by
  refine F_r16_pairs_of _ _ ?_
  have hl := foldput_len (plP d)
  have hl2 : (plP d).length = d.length := by simp [plP]
  refine L_rp1 d hd ih _ (K_r16_pairs_1_x0 _ _ (C_r16_pairs_8_of _ _ ?_)) d [] 0 rfl rfl
  refine L_rp2 _ (by omega) _ (K_r16_pairs_3_x0 _ _ (C_r16_pairs_17_of _ _ (K_r16_pairs_2_x0 _ _ (K_r16_pairs_0_x0 _ _ ?_)))) _ [] 0 rfl rfl
  rw [put_uniq]; exact ⟨rfl, rfl⟩
end Go.Proofs.Sim.Se

set_option linter.unusedVariables false
set_option linter.unusedSimpArgs false
namespace Go.Proofs.Sim.Se
open Go Go.Proofs Go.Proofs.Sim Go.Proofs.Sim.Va Go.Proofs.Sim.St

structure GN (Q : AV → Heap → Prop) (K : Ex → St → Prop) : Prop where
  norm : ∀ (a b c y0 y1 y2 : Int) (s ys : List UInt8) (l d p q : List (List IV)), Q (vcell a b c s l d) [] → K .normal ⟨[(2, (.ptr (Nm.loc (2 : Nat)) 0)), (3, (.ptr (Nm.loc (3 : Nat)) 0))], [((Nm.loc (2 : Nat)), (.blk ty_api_Value [(.imm (.int .i64 y0)), (.imm (.int .i64 y1)), (.imm (.int .i64 y2)), (.imm (.str ys)), (.own ((Nm.loc (2 : Nat)).cell (4 : Nat))), (.own ((Nm.loc (2 : Nat)).cell (5 : Nat)))])), ((Nm.loc (3 : Nat)), (.blk ty_api_Value [(.imm (.int .i64 a)), (.imm (.int .i64 b)), (.imm (.int .i64 c)), (.imm (.str s)), (.imm (.sl .any 6 l)), (.imm (.sl .any 7 d))])), (((Nm.loc (2 : Nat)).cell (4 : Nat)), (.arr (ty_api_Value + 2) true 6 p)), (((Nm.loc (2 : Nat)).cell (5 : Nat)), (.arr (ty_api_Pair + 2) true 7 q))]⟩
  ret : ∀ (a b c : Int) (s : List UInt8) (l d : List (List IV)), Q (vcell a b c s l d) [] → K .ret ⟨[(2, (.ptr (Nm.loc (2 : Nat)) 0))], [((Nm.loc (2 : Nat)), (.blk ty_api_Value [(.imm (.int .i64 a)), (.imm (.int .i64 b)), (.imm (.int .i64 c)), (.imm (.str s)), (.own ((Nm.loc (2 : Nat)).cell (4 : Nat))), (.own ((Nm.loc (2 : Nat)).cell (5 : Nat)))])), (((Nm.loc (2 : Nat)).cell (4 : Nat)), (.arr (ty_api_Value + 2) true 6 l)), (((Nm.loc (2 : Nat)).cell (5 : Nat)), (.arr (ty_api_Pair + 2) true 7 d))]⟩
theorem GN_1 (Q : AV → Heap → Prop) : GN Q (K_r16_Plain_1 Q) := ⟨fun a b c y0 y1 y2 s ys l d p q h => K_r16_Plain_1_x0 Q y0 y1 y2 ys a b c s l d p q (C_r16_Plain_20_of _ _ _ _ _ _ _ _ _ _ _ _ _ (K_r16_Plain_0_x0 Q _ _ _ _ _ _ h)), fun a b c s l d h => K_r16_Plain_1_x1 Q a b c s l d h⟩
theorem GN_2 {Q : AV → Heap → Prop} {K : Ex → St → Prop} (h : GN Q K) : GN Q (K_r16_Plain_2 K) := ⟨fun a b c y0 y1 y2 s ys l d p q hq => K_r16_Plain_2_x0 K _ _ _ _ _ _ _ _ _ _ _ _ (h.norm _ _ _ _ _ _ _ _ _ _ _ _ hq), fun a b c s l d hq => K_r16_Plain_2_x1 K _ _ _ _ _ _ (h.ret _ _ _ _ _ _ hq)⟩
theorem R_10 (l : List V) (hl : l.length ≤ 1000000000000) (ih : ∀ x ∈ l, RPlainAt x) (x0 x1 x2 y0 y1 y2 z0 z1 z2 : Int) (xs ys zs : List UInt8) (x5 z4 z5 p q : List (List IV))
    (Q : AV → Heap → Prop) (K : Ex → St → Prop) (hK : GN Q K) (hq : Q (vcell z0 z1 z2 zs (vrs (l.map V.plain)) z5) []) : ∀ (R X : List V) (i : Nat), l = X ++ R → i = X.length →
    L_r16_Plain_10 i x0 x1 x2 xs (vrs l) x5 y0 y1 y2 ys (vrs (X.map V.plain)) z0 z1 z2 zs z4 z5 p q (K_r16_Plain_3 K)
  | [], X, i, hX, hi => by
    simp only [List.append_nil] at hX
    subst hX
    refine L_r16_Plain_10_of _ _ _ _ _ _ _ _ _ _ _ _ _ _ _ _ _ _ _ _ _ ⟨fun h => ?_, fun _ => ?_⟩
    · have := of_decide_eq_true h
      rw [vrs_len] at this; omega
    · exact K_r16_Plain_3_x0 _ _ _ _ _ _ _ _ _ _ _ _ _ _ (C_r16_Plain_15_of _ _ _ _ _ _ _ _ _ _ _ _ _ _ ((GN_2 hK).norm _ _ _ _ _ _ _ _ _ _ _ _ hq))
  | x :: R, X, i, hX, hi => by
    have hlt : i < l.length := by rw [hX]; simp; omega
    have hx : vAt l i = x := by rw [hX, hi]; simp [vAt, List.getD_eq_getElem?_getD]
    have hr := vrow_at l i hlt
    rw [hx] at hr
    have w : IntKind.i64.wrap ((i : Int) + 1) = ((i + 1 : Nat) : Int) := by rw [wrap_id _ (by omega) (by omega)]; simp
    refine L_r16_Plain_10_of _ _ _ _ _ _ _ _ _ _ _ _ _ _ _ _ _ _ _ _ _ ⟨fun _ => ?_, fun h => ?_⟩
    · rw [show (vrs l).getD (Int.toNat (i : Int)) [] = x.row from hr, vrow_form, w]
      refine ⟨⟨⟨by omega, by rw [vrs_len]; omega⟩, vrow_ok _ _ _⟩, ?_⟩
      refine Call.use (ih x (by rw [hX]; simp)) ⟨⟨rfl, ?_⟩, ?_⟩
      · rw [vres, vrow_form]
      · rw [vres, vrow_form]
        refine ⟨by rw [vrs_len, List.length_map]; constructor <;> omega, ?_⟩
        have e : vrs (X.map V.plain) ++ [x.plain.row] = vrs ((X ++ [x]).map V.plain) := by simp [vrs]
        rw [e]
        exact R_10 l hl ih _ _ _ _ _ _ _ _ _ _ _ _ _ _ _ _ _ Q K hK hq R (X ++ [x]) (i + 1) (by rw [hX]; simp) (by simp; omega)
    · have := of_decide_eq_false h
      rw [vrs_len] at this; omega
theorem R_4 (v : V) (h1 : v.l.length ≤ 1000000000000) (h2 : v.d.length ≤ 1000000000000) (ih1 : ∀ x ∈ v.l, RPlainAt x) (ih2 : ∀ p ∈ v.d, RPlainAt p.2) (b : Bool) (hb1 : b = true → v.k = 1 ∨ v.k = 2) (hb2 : b = false → ¬ v.k = 1 ∧ ¬ v.k = 2) :
    C_r16_Plain_4 v.k b v.k v.n v.g v.s (vrs v.l) (prs v.d) 0 0 0 [] v.k 0 0 [] [] [] [] [] (K_r16_Plain_1 (Is (.imm (.agg v.plain.row)) [])) := by
  have hp := plain_row v
  generalize hQ : Is (.imm (.agg v.plain.row)) [] = Q
  have hG := GN_1 Q
  have fin : ∀ (a b c : Int) (s : List UInt8) (l d : List (List IV)), v.plain.row = [.int .i64 a, .int .i64 b, .int .i64 c, .str s, .sl .any 6 l, .sl .any 7 d] → Q (vcell a b c s l d) [] := by
    intro a b c s l d h
    rw [← hQ]
    exact ⟨by rw [h], rfl⟩
  refine C_r16_Plain_4_of _ _ _ _ _ _ _ _ _ _ _ _ _ _ _ _ _ _ _ _ _ ⟨fun h => hG.norm _ _ _ _ _ _ _ _ _ _ _ _ (fin _ _ _ _ _ _ ?_), fun h => ?_⟩
  · rw [hp]
    rcases hb1 h with e | e <;> rw [e] <;> rfl
  obtain ⟨k1, k2⟩ := hb2 h
  have hG2 := GN_2 hG
  have six : ∀ (c : Bool), (c = true → v.k = 3 ∨ v.k = 4) → (c = false → ¬ v.k = 3 ∧ ¬ v.k = 4) →
      C_r16_Plain_6 v.k c v.k v.n v.g v.s (vrs v.l) (prs v.d) 0 0 0 [] v.k 0 0 [] [] [] [] [] (K_r16_Plain_2 (K_r16_Plain_1 Q)) := by
    intro c hc1 hc2
    refine C_r16_Plain_6_of _ _ _ _ _ _ _ _ _ _ _ _ _ _ _ _ _ _ _ _ _ ⟨fun h => hG2.norm _ _ _ _ _ _ _ _ _ _ _ _ (fin _ _ _ _ _ _ ?_), fun h => ?_⟩
    · rw [hp]
      rcases hc1 h with e | e <;> rw [e] <;> rfl
    obtain ⟨k3, k4⟩ := hc2 h
    refine ⟨fun h => ?_, fun h => ?_⟩
    · have k5 : v.k = 5 := of_decide_eq_true h
      refine R_10 v.l h1 ih1 _ _ _ _ _ _ _ _ _ _ _ _ _ _ _ _ _ Q _ hG2 (fin _ _ _ _ _ _ ?_) v.l [] 0 rfl rfl
      rw [hp, k5]; rfl
    have k5 : ¬ v.k = 5 := of_decide_eq_false h
    refine ⟨fun h => ?_, fun h => ?_⟩
    · have k6 : v.k = 6 := of_decide_eq_true h
      refine Call.use (S_rpairs v.d h2 ih2) ⟨⟨rfl, rfl⟩, hG2.norm _ _ _ _ _ _ _ _ _ _ _ _ (fin _ _ _ _ _ _ ?_)⟩
      rw [hp, k6]; rfl
    have k6 : ¬ v.k = 6 := of_decide_eq_false h
    refine ⟨fun h => ?_, fun h => ?_⟩
    · have k7 : v.k = 7 := of_decide_eq_true h
      refine hG2.norm _ _ _ _ _ _ _ _ _ _ _ _ (fin _ _ _ _ _ _ ?_)
      rw [hp, k7]; rfl
    have k7 : ¬ v.k = 7 := of_decide_eq_false h
    refine ⟨fun h => ?_, fun h => ?_⟩
    · have k8 : v.k = 8 := of_decide_eq_true h
      refine Call.use (S_rpairs v.d h2 ih2) ⟨⟨rfl, rfl⟩, hG2.norm _ _ _ _ _ _ _ _ _ _ _ _ (fin _ _ _ _ _ _ ?_)⟩
      rw [hp, k8]; rfl
    have k8 : ¬ v.k = 8 := of_decide_eq_false h
    refine hG2.ret _ _ _ _ _ _ (fin _ _ _ _ _ _ ?_)
    have hz := zero_row
    have hpl : v.plain = zero ∨ v.k = 0 := by
      by_cases k0 : v.k = 0
      · exact .inr k0
      · left
        rw [plain_eq]; unfold mkP
        simp [k1, k2, k3, k4, k5, k6, k7, k8]
    rcases hpl with e | e
    · rw [e, hz]
    · rw [hp, e]; rfl
  refine ⟨fun h => ?_, fun h => ?_⟩
  · have e := of_decide_eq_true h
    exact six _ (fun _ => .inl e) (fun h' => absurd e (of_decide_eq_false h'))
  · have e : ¬ v.k = 3 := of_decide_eq_false h
    exact six _ (fun h' => .inr (of_decide_eq_true h')) (fun h' => ⟨e, of_decide_eq_false h'⟩)
theorem S_RPlain (v : V) (hf : Fit v) : RPlainAt v := by
  induction hf with
  | mk v h1 h2 _ _ ih1 ih2 =>
    show Call E0.P fn_r16_Plain [.imm (.agg v.row)] [] _
    have key := R_4 v h1 h2 ih1 ih2
    generalize Is (.imm (.agg v.plain.row)) [] = Q at key ⊢
    rw [row_eq]
    refine F_r16_Plain_of _ _ _ _ _ _ _ ⟨fun h => ?_, fun h => ?_⟩
    · have e : v.k = 1 := of_decide_eq_true h
      exact key _ (fun _ => .inl e) (fun h' => absurd e (of_decide_eq_false h'))
    · have e : ¬ v.k = 1 := of_decide_eq_false h
      exact key _ (fun h' => .inr (of_decide_eq_true h')) (fun h' => ⟨e, of_decide_eq_false h'⟩)

end Go.Proofs.Sim.Se

set_option linter.unusedVariables false
set_option linter.unusedSimpArgs false
namespace Go.Proofs.Sim.Se
open Go Go.Proofs Go.Proofs.Sim Go.Proofs.Sim.Va Go.Proofs.Sim.St

theorem V.ext {a b : V} (h1 : a.k = b.k) (h2 : a.n = b.n) (h3 : a.g = b.g) (h4 : a.s = b.s) (h5 : a.l = b.l) (h6 : a.d = b.d) : a = b := by
  cases a; cases b
  simp only [V.k, V.n, V.g, V.s, V.l, V.d] at h1 h2 h3 h4 h5 h6
  subst h1 h2 h3 h4 h5 h6; rfl
theorem drop_cons {α : Type} (l : List α) (i : Nat) (h : i < l.length) : l.drop i = l[i] :: l.drop (i + 1) := by
  rw [List.drop_eq_getElem_cons h]
end Go.Proofs.Sim.Se

set_option linter.unusedVariables false
set_option linter.unusedSimpArgs false
namespace Go.Proofs.Sim.Se
open Go Go.Proofs Go.Proofs.Sim Go.Proofs.Sim.Va Go.Proofs.Sim.St

abbrev I64 (n : Int) : Prop := -9223372036854775808 ≤ n ∧ n ≤ 9223372036854775807
/-- As data of a machine. -/
inductive Wf : V → Prop where
  | mk (v : V) : I64 v.k → I64 v.n → I64 v.g → v.s.length ≤ 9223372036854775807 → v.l.length ≤ 9223372036854775807 → v.d.length ≤ 9223372036854775807 → (∀ x ∈ v.l, Wf x) → (∀ p ∈ v.d, p.1.length ≤ 9223372036854775807) → (∀ p ∈ v.d, Wf p.2) → Wf v
def cntV : V → Nat
  | .mk k n g s l d => 1 + (l.attach.map fun ⟨v, h⟩ => cntV v).sum + (d.attach.map fun ⟨p, h⟩ => cntV p.2).sum
 termination_by v => SizeOf.sizeOf v
 decreasing_by
  · exact sz_l h
  · exact sz_d h
theorem cnt_eq (v : V) : cntV v = 1 + (v.l.map cntV).sum + (v.d.map fun p => cntV p.2).sum := by
  obtain ⟨k, n, g, s, l, d⟩ := v
  rw [cntV]
  simp only [V.l, V.d]
  congr 1
  · congr 2
    simp
  · congr 1
    apply List.ext_getElem <;> simp
theorem cnt_pos (v : V) : 1 ≤ cntV v := by rw [cnt_eq]; omega
theorem sum_len {α : Type} (f : α → Nat) (l : List α) (h : ∀ x ∈ l, 1 ≤ f x) : l.length ≤ (l.map f).sum := by
  induction l with
  | nil => simp
  | cons x l ih =>
    have := ih fun y hy => h y (by simp [hy])
    have := h x (by simp)
    simp; omega
theorem sum_mem {α : Type} (f : α → Nat) (l : List α) (x : α) (h : x ∈ l) : f x ≤ (l.map f).sum := by
  induction l with
  | nil => simp at h
  | cons y l ih =>
    simp only [List.map_cons, List.sum_cons]
    rcases List.mem_cons.1 h with rfl | h
    · omega
    · have := ih h; omega
theorem fit_cnt (n : Nat) (hn : n ≤ 1000000000000) : ∀ (m : Nat) (v : V), SizeOf.sizeOf v ≤ m → cntV v ≤ n → Fit v := by
  intro m
  induction m with
  | zero => intro v h; exact absurd h (by cases v; simp)
  | succ m ih =>
    intro v hm hv
    have he := cnt_eq v
    have h1 := sum_len cntV v.l fun x _ => cnt_pos x
    have h2 := sum_len (fun p : Pr => cntV p.2) v.d fun x _ => cnt_pos x.2
    refine .mk v (by omega) (by omega) (fun x hx => ?_) (fun p hp => ?_)
    · have := sum_mem cntV v.l x hx
      obtain ⟨k, n', g, s, l, d⟩ := v
      have := sz_l (k := k) (n := n') (g := g) (s := s) (d := d) (show x ∈ l from hx)
      exact ih x (by omega) (by omega)
    · have := sum_mem (fun p : Pr => cntV p.2) v.d p hp
      obtain ⟨k, n', g, s, l, d⟩ := v
      have := sz_d (k := k) (n := n') (g := g) (s := s) (l := l) (show p ∈ d from hp)
      exact ih p.2 (by omega) (by omega)
theorem bAT {p q : Prop} {i : Decidable p} {j : Decidable q} (h : (bif @decide p i then @decide q j else false) = true) : p ∧ q := by
  by_cases hp : p <;> by_cases hq : q <;> simp_all
theorem bAF {p q : Prop} {i : Decidable p} {j : Decidable q} (h : (bif @decide p i then @decide q j else false) = false) : ¬ (p ∧ q) := by
  by_cases hp : p <;> by_cases hq : q <;> simp_all
abbrev SizeAt (v : V) : Prop := ∀ m : Nat, 1 ≤ m → m ≤ 4611686018427387905 → Call E0.P fn_r16_size [.imm (.agg v.row), .imm (.int .i64 m)] [] (Is (.imm (.int .i64 (min (cntV v) m : Nat))) [])
theorem sum_drop {α : Type} (f : α → Nat) (l : List α) (i : Nat) (h : i < l.length) : ((l.drop i).map f).sum = f l[i] + ((l.drop (i + 1)).map f).sum := by
  rw [drop_cons l i h, List.map_cons, List.sum_cons]
theorem L_size1 (v : V) (hl : v.l.length ≤ 9223372036854775807) (ih : ∀ x ∈ v.l, SizeAt x) (m : Nat) (hm : m ≤ 4611686018427387905) (x0 x1 x2 : Int) (xs : List UInt8) (x5 : List (List IV)) (K : Ex → St → Prop) (N : Nat)
    (hE : K (.exit 0) ⟨[(1, (.imm (.int .i64 m))), (2, (.ptr (Nm.loc (2 : Nat)) 0)), (5, (.imm (.int .i64 (min N m : Nat))))], [((Nm.loc (2 : Nat)), (.blk ty_api_Value [(.imm (.int .i64 x0)), (.imm (.int .i64 x1)), (.imm (.int .i64 x2)), (.imm (.str xs)), (.imm (.sl .any 6 (vrs v.l))), (.imm (.sl .any 7 x5))]))]⟩) :
    ∀ (f n i : Nat), f + i = v.l.length → 1 ≤ n → n ≤ m → min (n + ((v.l.drop i).map cntV).sum) m = min N m → L_r16_size_3 m n i x0 x1 x2 xs (vrs v.l) x5 K := by
  intro f
  induction f with
  | zero =>
    intro n i hf h1 h2 hN
    refine L_r16_size_3_of _ _ _ _ _ _ _ _ _ _ (Let.intro ⟨fun h => ?_, fun _ => ?_⟩)
    · have h := bAT h
      have := h.1
      rw [vrs_len] at this; omega
    · rw [List.drop_of_length_le (by omega)] at hN
      simp only [List.map_nil, List.sum_nil, Nat.add_zero] at hN
      have e : n = min N m := by omega
      rw [e]; exact hE
  | succ f ihf =>
    intro n i hf h1 h2 hN
    have hlt : i < v.l.length := by omega
    have hv : vAt v.l i = v.l[i] := by simp [vAt, List.getD_eq_getElem?_getD, hlt]
    refine L_r16_size_3_of _ _ _ _ _ _ _ _ _ _ (Let.intro ⟨fun h => ?_, fun h => ?_⟩)
    · have h := bAT h
      have hnm : n < m := by have := h.2; omega
      rw [show (vrs v.l).getD (Int.toNat (i : Int)) [] = (vAt v.l i).row from vrow_at _ _ hlt, vrow_form, vrs_len]
      refine ⟨⟨⟨by omega, by omega⟩, vrow_ok _ _ _⟩, ?_⟩
      have w1 : IntKind.i64.wrap ((m : Int) - n) = ((m - n : Nat) : Int) := by rw [wrap_id _ (by omega) (by omega)]; omega
      have w2 : IntKind.i64.wrap ((i : Int) + 1) = ((i + 1 : Nat) : Int) := by rw [wrap_id _ (by omega) (by omega)]; simp
      rw [w1, w2]
      have hx : vAt v.l i ∈ v.l := by rw [hv]; exact List.getElem_mem hlt
      refine Call.use (ih _ hx (m - n) (by omega) (by omega)) ⟨⟨rfl, rfl⟩, ?_⟩
      rw [sum_drop _ _ _ hlt, ← hv] at hN
      generalize cntV (vAt v.l i) = c at *
      show L_r16_size_3 _ (IntKind.i64.wrap ((n : Int) + ((min c (m - n) : Nat) : Int))) _ _ _ _ _ _ _ _
      have w3 : IntKind.i64.wrap ((n : Int) + ((min c (m - n) : Nat) : Int)) = ((n + min c (m - n) : Nat) : Int) := by rw [wrap_id _ (by omega) (by omega)]; simp
      rw [w3]
      exact ihf _ (i + 1) (by omega) (by omega) (by omega) (by omega)
    · have hnm : ¬ n < m := by
        intro c
        have h := bAF h
        rw [vrs_len] at h
        exact h ⟨by omega, by omega⟩
      have e : n = min N m := by omega
      rw [e]; exact hE
theorem L_size2 (v : V) (hl : v.d.length ≤ 9223372036854775807) (ih : ∀ x ∈ v.d, SizeAt x.2) (m : Nat) (hm : m ≤ 4611686018427387905) (x0 x1 x2 : Int) (xs : List UInt8) (x4 : List (List IV)) (K : Ex → St → Prop) (N : Nat)
    (hE : K (.exit 2) ⟨[(5, (.imm (.int .i64 (min N m : Nat))))], []⟩) :
    ∀ (f n i : Nat), f + i = v.d.length → 1 ≤ n → n ≤ m → min (n + ((v.d.drop i).map fun p => cntV p.2).sum) m = min N m → L_r16_size_10 m n i x0 x1 x2 xs x4 (prs v.d) K := by
  intro f
  induction f with
  | zero =>
    intro n i hf h1 h2 hN
    refine L_r16_size_10_of _ _ _ _ _ _ _ _ _ _ (Let.intro ⟨fun h => ?_, fun _ => ?_⟩)
    · have h := bAT h
      have := h.1
      rw [prs_len] at this; omega
    · rw [List.drop_of_length_le (by omega)] at hN
      simp only [List.map_nil, List.sum_nil, Nat.add_zero] at hN
      have e : n = min N m := by omega
      rw [e]; exact hE
  | succ f ihf =>
    intro n i hf h1 h2 hN
    have hlt : i < v.d.length := by omega
    have hv : pAt v.d i = v.d[i] := by simp [pAt, List.getD_eq_getElem?_getD, hlt]
    refine L_r16_size_10_of _ _ _ _ _ _ _ _ _ _ (Let.intro ⟨fun h => ?_, fun h => ?_⟩)
    · have h := bAT h
      have hnm : n < m := by have := h.2; omega
      rw [show (prs v.d).getD (Int.toNat (i : Int)) [] = pRow (pAt v.d i) from prow_at _ _ hlt, prow_tail, prs_len]
      refine ⟨⟨⟨by omega, by omega⟩, row_ok _ _ _⟩, ?_⟩
      have w1 : IntKind.i64.wrap ((m : Int) - n) = ((m - n : Nat) : Int) := by rw [wrap_id _ (by omega) (by omega)]; omega
      have w2 : IntKind.i64.wrap ((i : Int) + 1) = ((i + 1 : Nat) : Int) := by rw [wrap_id _ (by omega) (by omega)]; simp
      rw [w1, w2]
      have hx : pAt v.d i ∈ v.d := by rw [hv]; exact List.getElem_mem hlt
      refine Call.use (ih _ hx (m - n) (by omega) (by omega)) ⟨⟨rfl, rfl⟩, ?_⟩
      rw [sum_drop _ _ _ hlt, ← hv] at hN
      generalize cntV (pAt v.d i).2 = c at *
      show L_r16_size_10 _ (IntKind.i64.wrap ((n : Int) + ((min c (m - n) : Nat) : Int))) _ _ _ _ _ _ _ _
      have w3 : IntKind.i64.wrap ((n : Int) + ((min c (m - n) : Nat) : Int)) = ((n + min c (m - n) : Nat) : Int) := by rw [wrap_id _ (by omega) (by omega)]; simp
      rw [w3]
      exact ihf _ (i + 1) (by omega) (by omega) (by omega) (by omega)
    · have hnm : ¬ n < m := by
        intro c
        have h := bAF h
        rw [prs_len] at h
        exact h ⟨by omega, by omega⟩
      have e : n = min N m := by omega
      rw [e]; exact hE
theorem S_size (v : V) (hv : Wf v) : SizeAt v := by
  induction hv with
  | mk v _ _ _ _ h1 h2 _ _ _ ih1 ih2 =>
    intro m hm hm2
    have he := cnt_eq v
    have ih2 : ∀ p ∈ v.d, SizeAt p.2 := fun p hp => (ih2 p hp)
    generalize hQ : Is (.imm (.int .i64 ((min (cntV v) m : Nat) : Int))) [] = Q
    have hq : Q (.imm (.int .i64 ((min (cntV v) m : Nat) : Int))) [] := by rw [← hQ]; exact ⟨rfl, rfl⟩
    rw [row_eq]
    refine F_r16_size_of _ _ _ _ _ _ _ _ ?_
    refine L_size1 v h1 ih1 m hm2 _ _ _ _ _ _ (1 + (v.l.map cntV).sum) (K_r16_size_1_x0 _ _ _ _ _ _ _ _ _ (C_r16_size_8_of _ _ _ _ _ _ _ _ _ ?_)) v.l.length 1 0 rfl (by omega) hm (by simp)
    refine L_size2 v h2 ih2 m hm2 _ _ _ _ _ _ (cntV v) (K_r16_size_3_x0 _ _ (C_r16_size_15_of _ _ (K_r16_size_2_x0 _ _ (K_r16_size_0_x0 _ _ hq)))) v.d.length _ 0 rfl (by omega) (by omega) ?_
    rw [he]
    simp only [List.drop_zero]
    omega
end Go.Proofs.Sim.Se

set_option linter.unusedVariables false
set_option linter.unusedSimpArgs false
namespace Go.Proofs.Sim.Se
open Go Go.Proofs Go.Proofs.Sim Go.Proofs.Sim.Va Go.Proofs.Sim.St

/-- A guard's answer: if true, that holds. -/
def Gd (p : Prop) (r : AV) (h : Heap) : Prop := ∃ c : Bool, r = .imm (.bool c) ∧ h = [] ∧ (c = true → p)
theorem gd_use {P : Program} {f : Nat} {args : List AV} {p : Prop} {Q : AV → Heap → Prop} (hc : Call P f args [] (Gd p)) (h : ∀ c : Bool, (c = true → p) → Q (.imm (.bool c)) []) : Call P f args [] Q :=
  hc.mono fun r g ⟨c, e1, e2, e3⟩ => by subst e1 e2; exact h c e3
inductive LowP : Int → V → Prop where
  | mk (m : Int) (v : V) : 0 ≤ m → (∀ x ∈ v.l, LowP (m - 1) x) → (∀ p ∈ v.d, LowP (m - 1) p.2) → LowP m v
inductive ShortP : Int → V → Prop where
  | mk (m : Int) (v : V) : v.s.length ≤ m → (∀ x ∈ v.l, ShortP m x) → (∀ p ∈ v.d, p.1.length ≤ m) → (∀ p ∈ v.d, ShortP m p.2) → ShortP m v
abbrev LowAt (v : V) : Prop := ∀ m : Int, -1 ≤ m → m ≤ 1000000 → Call E0.P fn_r16_low [.imm (.agg v.row), .imm (.int .i64 m)] [] (Gd (LowP m v))
abbrev ShortAt (v : V) : Prop := ∀ m : Int, Call E0.P fn_r16_short [.imm (.agg v.row), .imm (.int .i64 m)] [] (Gd (ShortP m v))
theorem all_next {α : Type} {P : α → Prop} (l : List α) (i : Nat) (h : i < l.length) (ha : ∀ x ∈ l.take i, P x) (hx : P l[i]) : ∀ x ∈ l.take (i + 1), P x := by
  intro x h'
  rw [List.take_add_one] at h'
  rcases List.mem_append.1 h' with h' | h'
  · exact ha x h'
  · simp [h] at h'; rw [h']; exact hx
theorem L_low1 (v : V) (hl : v.l.length ≤ 9223372036854775807) (ih : ∀ x ∈ v.l, LowAt x) (m : Int) (hm0 : 0 ≤ m) (hm : m ≤ 1000000) (x0 x1 x2 : Int) (xs : List UInt8) (x5 : List (List IV)) (K : Ex → St → Prop)
    (hF : K .ret ⟨[(4, .imm (.bool false))], []⟩)
    (hE : (∀ x ∈ v.l, LowP (m - 1) x) → K (.exit 0) ⟨[(1, (.imm (.int .i64 m))), (2, (.ptr (Nm.loc (2 : Nat)) 0))], [((Nm.loc (2 : Nat)), (.blk ty_api_Value [(.imm (.int .i64 x0)), (.imm (.int .i64 x1)), (.imm (.int .i64 x2)), (.imm (.str xs)), (.imm (.sl .any 6 (vrs v.l))), (.imm (.sl .any 7 x5))]))]⟩) :
    ∀ (f i : Nat), f + i = v.l.length → (∀ x ∈ v.l.take i, LowP (m - 1) x) → L_r16_low_5 m i x0 x1 x2 xs (vrs v.l) x5 K := by
  intro f
  induction f with
  | zero =>
    intro i hf ha
    refine L_r16_low_5_of _ _ _ _ _ _ _ _ _ ⟨fun h => ?_, fun _ => hE ?_⟩
    · have := of_decide_eq_true h
      rw [vrs_len] at this; omega
    · rw [List.take_of_length_le (by omega)] at ha; exact ha
  | succ f ihf =>
    intro i hf ha
    have hlt : i < v.l.length := by omega
    have hv : vAt v.l i = v.l[i] := by simp [vAt, List.getD_eq_getElem?_getD, hlt]
    refine L_r16_low_5_of _ _ _ _ _ _ _ _ _ ⟨fun h => ?_, fun h => ?_⟩
    · rw [show (vrs v.l).getD (Int.toNat (i : Int)) [] = (vAt v.l i).row from vrow_at _ _ hlt, vrow_form, vrs_len]
      refine ⟨⟨⟨by omega, by omega⟩, vrow_ok _ _ _⟩, ?_⟩
      have w1 : IntKind.i64.wrap (m - 1) = m - 1 := wrap_id _ (by omega) (by omega)
      have w2 : IntKind.i64.wrap ((i : Int) + 1) = ((i + 1 : Nat) : Int) := by rw [wrap_id _ (by omega) (by omega)]; simp
      rw [w1, w2]
      refine gd_use (ih _ (by rw [hv]; exact List.getElem_mem hlt) (m - 1) (by omega) (by omega)) fun c hc => ⟨⟨rfl, rfl⟩, ⟨fun _ => hF, fun h => ?_⟩⟩
      have h : (!c) = false := h
      exact ihf (i + 1) (by omega) (all_next _ _ hlt ha (by rw [← hv]; exact hc (by simpa using h)))
    · have := of_decide_eq_false h
      rw [vrs_len] at this; omega
theorem L_low2 (v : V) (hl : v.d.length ≤ 9223372036854775807) (ih : ∀ x ∈ v.d, LowAt x.2) (m : Int) (hm0 : 0 ≤ m) (hm : m ≤ 1000000) (x0 x1 x2 : Int) (xs : List UInt8) (x4 : List (List IV)) (K : Ex → St → Prop)
    (hF : K .ret ⟨[(4, .imm (.bool false))], []⟩) (hE : (∀ x ∈ v.d, LowP (m - 1) x.2) → K (.exit 2) ⟨[], []⟩) :
    ∀ (f i : Nat), f + i = v.d.length → (∀ x ∈ v.d.take i, LowP (m - 1) x.2) → L_r16_low_14 m i x0 x1 x2 xs x4 (prs v.d) K := by
  intro f
  induction f with
  | zero =>
    intro i hf ha
    refine L_r16_low_14_of _ _ _ _ _ _ _ _ _ ⟨fun h => ?_, fun _ => hE ?_⟩
    · have := of_decide_eq_true h
      rw [prs_len] at this; omega
    · rw [List.take_of_length_le (by omega)] at ha; exact ha
  | succ f ihf =>
    intro i hf ha
    have hlt : i < v.d.length := by omega
    have hv : pAt v.d i = v.d[i] := by simp [pAt, List.getD_eq_getElem?_getD, hlt]
    refine L_r16_low_14_of _ _ _ _ _ _ _ _ _ ⟨fun h => ?_, fun h => ?_⟩
    · rw [show (prs v.d).getD (Int.toNat (i : Int)) [] = pRow (pAt v.d i) from prow_at _ _ hlt, prow_tail, prs_len]
      refine ⟨⟨⟨by omega, by omega⟩, row_ok _ _ _⟩, ?_⟩
      have w1 : IntKind.i64.wrap (m - 1) = m - 1 := wrap_id _ (by omega) (by omega)
      have w2 : IntKind.i64.wrap ((i : Int) + 1) = ((i + 1 : Nat) : Int) := by rw [wrap_id _ (by omega) (by omega)]; simp
      rw [w1, w2]
      refine gd_use (ih _ (by rw [hv]; exact List.getElem_mem hlt) (m - 1) (by omega) (by omega)) fun c hc => ⟨⟨rfl, rfl⟩, ⟨fun _ => hF, fun h => ?_⟩⟩
      have h : (!c) = false := h
      exact ihf (i + 1) (by omega) (all_next (P := fun x : Pr => LowP (m - 1) x.2) _ _ hlt ha (by rw [← hv]; exact hc (by simpa using h)))
    · have := of_decide_eq_false h
      rw [prs_len] at this; omega
theorem S_low (v : V) (hv : Wf v) : LowAt v := by
  induction hv with
  | mk v _ _ _ _ h1 h2 _ _ _ ih1 ih2 =>
    intro m hm0 hm
    have ih2 : ∀ p ∈ v.d, LowAt p.2 := fun p hp => (ih2 p hp)
    generalize hQ : Gd (LowP m v) = Q
    have hF : Q (.imm (.bool false)) [] := by rw [← hQ]; exact ⟨false, rfl, rfl, fun h => by cases h⟩
    have hT : LowP m v → Q (.imm (.bool true)) [] := fun h => by rw [← hQ]; exact ⟨true, rfl, rfl, fun _ => h⟩
    rw [row_eq]
    refine F_r16_low_of _ _ _ _ _ _ _ _ ⟨fun _ => hF, fun h => ?_⟩
    have hm0 : 0 ≤ m := by have := of_decide_eq_false h; omega
    refine L_low1 v h1 ih1 m hm0 hm _ _ _ _ _ _ (K_r16_low_1_x0 _ _ hF) (fun a1 => K_r16_low_1_x1 _ _ _ _ _ _ _ _ (C_r16_low_12_of _ _ _ _ _ _ _ _ ?_)) v.l.length 0 rfl (by simp)
    exact L_low2 v h2 ih2 m hm0 hm _ _ _ _ _ _ (K_r16_low_3_x0 _ _ (K_r16_low_0_x0 _ _ hF)) (fun a2 => K_r16_low_3_x1 _ (C_r16_low_21_of _ (K_r16_low_2_x0 _ _ (K_r16_low_0_x0 _ _ (hT (.mk m v hm0 a1 a2)))))) v.d.length 0 rfl (by simp)
theorem L_short1 (v : V) (hl : v.l.length ≤ 9223372036854775807) (ih : ∀ x ∈ v.l, ShortAt x) (m : Int) (x0 x1 x2 : Int) (xs : List UInt8) (x5 : List (List IV)) (K : Ex → St → Prop)
    (hF : K .ret ⟨[(4, .imm (.bool false))], []⟩)
    (hE : (∀ x ∈ v.l, ShortP m x) → K (.exit 0) ⟨[(1, (.imm (.int .i64 m))), (2, (.ptr (Nm.loc (2 : Nat)) 0))], [((Nm.loc (2 : Nat)), (.blk ty_api_Value [(.imm (.int .i64 x0)), (.imm (.int .i64 x1)), (.imm (.int .i64 x2)), (.imm (.str xs)), (.imm (.sl .any 6 (vrs v.l))), (.imm (.sl .any 7 x5))]))]⟩) :
    ∀ (f i : Nat), f + i = v.l.length → (∀ x ∈ v.l.take i, ShortP m x) → L_r16_short_5 m i x0 x1 x2 xs (vrs v.l) x5 K := by
  intro f
  induction f with
  | zero =>
    intro i hf ha
    refine L_r16_short_5_of _ _ _ _ _ _ _ _ _ ⟨fun h => ?_, fun _ => hE ?_⟩
    · have := of_decide_eq_true h
      rw [vrs_len] at this; omega
    · rw [List.take_of_length_le (by omega)] at ha; exact ha
  | succ f ihf =>
    intro i hf ha
    have hlt : i < v.l.length := by omega
    have hv : vAt v.l i = v.l[i] := by simp [vAt, List.getD_eq_getElem?_getD, hlt]
    refine L_r16_short_5_of _ _ _ _ _ _ _ _ _ ⟨fun h => ?_, fun h => ?_⟩
    · rw [show (vrs v.l).getD (Int.toNat (i : Int)) [] = (vAt v.l i).row from vrow_at _ _ hlt, vrow_form, vrs_len]
      refine ⟨⟨⟨by omega, by omega⟩, vrow_ok _ _ _⟩, ?_⟩
      have w2 : IntKind.i64.wrap ((i : Int) + 1) = ((i + 1 : Nat) : Int) := by rw [wrap_id _ (by omega) (by omega)]; simp
      rw [w2]
      refine gd_use (ih _ (by rw [hv]; exact List.getElem_mem hlt) m) fun c hc => ⟨⟨rfl, rfl⟩, ⟨fun _ => hF, fun h => ?_⟩⟩
      have h : (!c) = false := h
      exact ihf (i + 1) (by omega) (all_next _ _ hlt ha (by rw [← hv]; exact hc (by simpa using h)))
    · have := of_decide_eq_false h
      rw [vrs_len] at this; omega
theorem L_short2 (v : V) (hl : v.d.length ≤ 9223372036854775807) (ih : ∀ x ∈ v.d, ShortAt x.2) (m : Int) (x0 x1 x2 : Int) (xs : List UInt8) (x4 : List (List IV)) (K : Ex → St → Prop)
    (hF : K .ret ⟨[(4, .imm (.bool false))], []⟩) (hE : (∀ x ∈ v.d, ((x.1.length : Nat) : Int) ≤ m ∧ ShortP m x.2) → K (.exit 2) ⟨[], []⟩) :
    ∀ (f i : Nat), f + i = v.d.length → (∀ x ∈ v.d.take i, ((x.1.length : Nat) : Int) ≤ m ∧ ShortP m x.2) → L_r16_short_14 m i x0 x1 x2 xs x4 (prs v.d) K := by
  intro f
  induction f with
  | zero =>
    intro i hf ha
    refine L_r16_short_14_of _ _ _ _ _ _ _ _ _ ⟨fun h => ?_, fun _ => hE ?_⟩
    · have := of_decide_eq_true h
      rw [prs_len] at this; omega
    · rw [List.take_of_length_le (by omega)] at ha; exact ha
  | succ f ihf =>
    intro i hf ha
    have hlt : i < v.d.length := by omega
    have hv : pAt v.d i = v.d[i] := by simp [pAt, List.getD_eq_getElem?_getD, hlt]
    refine L_r16_short_14_of _ _ _ _ _ _ _ _ _ ⟨fun h => ?_, fun h => ?_⟩
    · have g0 : ∀ x : Pr, gS (pRow x) 0 = x.1 := fun x => by rw [pRow_eq]; rfl
      rw [show (prs v.d).getD (Int.toNat (i : Int)) [] = pRow (pAt v.d i) from prow_at _ _ hlt, prow_tail, g0, prs_len]
      have rng : ((0 : Int) ≤ (i : Int) ∧ (i : Int) < (v.d.length : Int)) ∧ shOK [.str, .int .i64, .int .i64, .int .i64, .str, .sl 6 ty_api_Value, .sl 7 ty_api_Pair] (pRow (pAt v.d i)) = true := ⟨⟨by omega, by omega⟩, row_ok _ _ _⟩
      refine ⟨rng, ⟨fun _ => rng, ⟨fun hk => ?_, fun _ => ⟨rfl, Let.intro ⟨fun _ => hF, fun h => absurd h (by decide)⟩⟩⟩⟩⟩
      have w2 : IntKind.i64.wrap ((i : Int) + 1) = ((i + 1 : Nat) : Int) := by rw [wrap_id _ (by omega) (by omega)]; simp
      refine gd_use (ih _ (by rw [hv]; exact List.getElem_mem hlt) m) fun c hc => ⟨⟨rfl, rfl⟩, Let.intro ⟨fun _ => hF, fun h => ?_⟩⟩
      have h : (!c) = false := h
      have hk : ((pAt v.d i).1.length : Int) ≤ m := by
        have : decide (m < ((pAt v.d i).1.length : Int)) = false := by simpa using hk
        have := of_decide_eq_false this
        omega
      refine C_r16_short_20_of _ _ _ _ _ _ _ _ _ ?_
      rw [w2]
      refine K_r16_short_4_x0 _ _ _ _ _ _ _ _ _ (ihf (i + 1) (by omega) (all_next (P := fun x : Pr => ((x.1.length : Nat) : Int) ≤ m ∧ ShortP m x.2) _ _ hlt ha ?_))
      rw [← hv]
      exact ⟨hk, hc (by simpa using h)⟩
    · have := of_decide_eq_false h
      rw [prs_len] at this; omega
theorem S_short (v : V) (hv : Wf v) : ShortAt v := by
  induction hv with
  | mk v _ _ _ _ h1 h2 _ _ _ ih1 ih2 =>
    intro m
    have ih2 : ∀ p ∈ v.d, ShortAt p.2 := fun p hp => (ih2 p hp)
    generalize hQ : Gd (ShortP m v) = Q
    have hF : Q (.imm (.bool false)) [] := by rw [← hQ]; exact ⟨false, rfl, rfl, fun h => by cases h⟩
    have hT : ShortP m v → Q (.imm (.bool true)) [] := fun h => by rw [← hQ]; exact ⟨true, rfl, rfl, fun _ => h⟩
    rw [row_eq]
    refine F_r16_short_of _ _ _ _ _ _ _ _ ⟨fun _ => hF, fun h => ?_⟩
    have hs : v.s.length ≤ m := by have := of_decide_eq_false h; omega
    refine L_short1 v h1 ih1 m _ _ _ _ _ _ (K_r16_short_1_x0 _ _ hF) (fun a1 => K_r16_short_1_x1 _ _ _ _ _ _ _ _ (C_r16_short_12_of _ _ _ _ _ _ _ _ ?_)) v.l.length 0 rfl (by simp)
    exact L_short2 v h2 ih2 m _ _ _ _ _ _ (K_r16_short_3_x0 _ _ (K_r16_short_0_x0 _ _ hF)) (fun a2 => K_r16_short_3_x1 _ (C_r16_short_21_of _ (K_r16_short_2_x0 _ _ (K_r16_short_0_x0 _ _ (hT (.mk m v hs a1 (fun p hp => (a2 p hp).1) (fun p hp => (a2 p hp).2))))))) v.d.length 0 rfl (by simp)
structure FewP (n : Nat) (v : V) : Prop where
  c : cntV v ≤ n
  l : LowP 200 v
  s : ShortP 3000 v
theorem S_Few (v : V) (hv : Wf v) (n : Nat) (hn : n ≤ 1000000) : Call E0.P fn_r16_Few [.imm (.agg v.row), .imm (.int .i64 n)] [] (Gd (FewP n v)) := by
  have a1 := S_size v hv (n + 1) (by omega) (by omega)
  have a2 := S_low v hv 200 (by omega) (by omega)
  have a3 := S_short v hv 3000
  generalize hQ : Gd (FewP n v) = Q
  have hF : Q (.imm (.bool false)) [] := by rw [← hQ]; exact ⟨false, rfl, rfl, fun h => by cases h⟩
  have hT : ∀ c : Bool, (c = true → FewP n v) → Q (.imm (.bool c)) [] := fun c h => by rw [← hQ]; exact ⟨c, rfl, rfl, h⟩
  rw [row_eq] at a1 a2 a3 ⊢
  have w : IntKind.i64.wrap ((n : Int) + 1) = ((n + 1 : Nat) : Int) := by rw [wrap_id _ (by omega) (by omega)]; simp
  refine F_r16_Few_of _ _ _ _ _ _ _ _ ?_
  rw [w]
  refine Call.use a1 ⟨⟨rfl, rfl⟩, ⟨fun h => ?_, fun _ => ?_⟩⟩
  · have hc : cntV v ≤ n := by
      have h : (decide (((min (cntV v) (n + 1) : Nat) : Int) ≤ (n : Int)) == true) = true := h
      have : ((min (cntV v) (n + 1) : Nat) : Int) ≤ (n : Int) := by simpa using h
      omega
    refine gd_use a2 fun c2 h2 => ⟨⟨rfl, rfl⟩, Let.intro ⟨fun e2 => ?_, fun _ => ⟨rfl, Let.intro hF⟩⟩⟩
    have e2 : c2 = true := by have e2 : (c2 == true) = true := e2; simpa using e2
    exact gd_use a3 fun c3 h3 => ⟨⟨rfl, rfl⟩, Let.intro (hT c3 fun e3 => ⟨hc, h2 e2, h3 e3⟩)⟩
  · exact ⟨rfl, Let.intro ⟨fun h => absurd h (by decide), fun _ => ⟨rfl, Let.intro hF⟩⟩⟩
end Go.Proofs.Sim.Se
