import Derived.Test.YtcdjheflchglaaaVsB
namespace Go.Proofs.Sim.Se
open Go Go.Proofs Go.Proofs.Sim Go.Proofs.Sim.Va Go.Proofs.Sim.St

theorem mkP_d (k n g : Int) (s : List UInt8) (l : List V) (d : List Pr) : (mkP k n g s l d).d = [] ∨ (mkP k n g s l d).d = (uniq d).filter nul := by
  unfold mkP
  split
  · exact .inl rfl
  split
  · exact .inl rfl
  split
  · exact .inl rfl
  split
  · exact .inr rfl
  split
  · exact .inl rfl
  split
  · exact .inr rfl
  · exact .inl rfl
theorem plain_d (v : V) : v.plain.d = [] ∨ v.plain.d = plD v.d := by
  rw [plain_eq]; exact mkP_d _ _ _ _ _ _
theorem uniq_len (l : List Pr) : (uniq l).length ≤ l.length := by
  have := (compact_sub (sortP l)).length_le
  rw [show (sortP l).length = l.length from srt_length ordK l] at this
  exact this
theorem plain_dlen (v : V) : v.plain.d.length ≤ v.d.length := by
  rcases plain_d v with h | h <;> rw [h]
  · simp
  · refine Nat.le_trans (List.length_filter_le _ _) (Nat.le_trans (uniq_len _) (by simp [plP]))
theorem zero_row : zero.row = [.int .i64 0, .int .i64 0, .int .i64 0, .str [], .sl .any 6 [], .sl .any 7 []] := by
  rw [row_eq]; rfl
end Go.Proofs.Sim.Se

namespace Go.Proofs.Sim.Se
open Go Go.Proofs Go.Proofs.Sim Go.Proofs.Sim.Va Go.Proofs.Sim.St

theorem prow_at (ps : List Pr) (n : Nat) (h : n < ps.length) : (prs ps).getD n [] = pRow (pAt ps n) := by simp [List.getD_eq_getElem?_getD, h]
theorem insN_app (p : Pr) (X R : List Pr) (h : ∀ q ∈ X, bl p.1 q.1 = false) : insN p (X ++ R) = X ++ insN p R := by
  induction X with
  | nil => rfl
  | cons x X ih =>
    rw [List.cons_append, insN, h x (by simp), ih fun q hq => h q (by simp [hq])]
    rfl
theorem insN_len (p : Pr) (d : List Pr) : (insN p d).length = d.length + 1 := by
  induction d with
  | nil => rfl
  | cons x r ih =>
    rw [insN]; split <;> simp [ih]
theorem L_put (d : List Pr) (p : Pr) (hd : d.length ≤ 1000000000000) (K : Ex → St → Prop) (hR : d.any (fun q => q.1 == p.1) = true → K .ret ⟨[(4, .imm (.sl .any 7 (prs d)))], []⟩)
    (hE : ∀ (b : Bool) (out : List Pr), (d.any (fun q => q.1 == p.1) = false) → (if b then insN p d = out else (out = d ∧ insN p d = d ++ [p])) → K (.exit 0) ⟨[(3, (.ptr (Nm.loc (3 : Nat)) 0)), (5, (.own (Nm.loc (8 : Nat)))), (6, (.imm (.bool b)))], [((Nm.loc (3 : Nat)), (.blk ty_api_Pair [(.imm (.str (p.1))), (.imm (.int .i64 (p.2.k))), (.imm (.int .i64 (p.2.n))), (.imm (.int .i64 (p.2.g))), (.imm (.str p.2.s)), (.imm (.sl .any 6 (p.2.l.map V.row))), (.imm (.sl .any 7 (p.2.d.map pRow)))])), ((Nm.loc (8 : Nat)), (.arr 0 true 7 (prs out)))]⟩) :
    ∀ (R X : List Pr) (i : Nat) (b : Bool) (out : List Pr), d = X ++ R → i = X.length → (X.any (fun q => q.1 == p.1) = false) → (if b then insN p d = out ++ R else (out = X ∧ ∀ q ∈ X, bl p.1 q.1 = false)) →
    L_r16_put_4 (prs d) b i p.1 p.2.k p.2.n p.2.g p.2.s (p.2.l.map V.row) (p.2.d.map pRow) (prs out) K
  | [], X, i, b, out, hX, hi, ha, hb => by
    simp only [List.append_nil] at hX hb
    subst hX
    refine L_r16_put_4_of _ _ _ _ _ _ _ _ _ _ _ _ ⟨fun h => ?_, fun _ => hE b out ha ?_⟩
    · have := of_decide_eq_true h
      rw [prs_len] at this; omega
    · cases b with
      | true => exact hb
      | false =>
        obtain ⟨h1, h2⟩ := hb
        refine ⟨h1, ?_⟩
        have := insN_app p d [] h2
        simpa [insN] using this
  | x :: R, X, i, b, out, hX, hi, ha, hb => by
    have hlt : i < d.length := by rw [hX]; simp; omega
    have hx : pAt d i = x := by rw [hX]; exact pAt_mid _ _ _ _ hi
    have hr := prow_at d i hlt
    rw [hx] at hr
    have hxd : d = (X ++ [x]) ++ R := by rw [hX]; simp
    have g0 : gS (pRow x) 0 = x.1 := by rw [pRow_eq]; rfl
    have w : IntKind.i64.wrap ((i : Int) + 1) = ((i + 1 : Nat) : Int) := by rw [wrap_id _ (by omega) (by omega)]; simp
    have hol : out.length ≤ i + 1 := by
      cases b with
      | true =>
        have := congrArg List.length (show insN p d = out ++ (x :: R) from hb)
        rw [insN_len, hX] at this
        simp at this; omega
      | false => rw [hb.1]; omega
    refine L_r16_put_4_of _ _ _ _ _ _ _ _ _ _ _ _ ⟨fun _ => ?_, fun h => ?_⟩
    · simp only [Int.toNat_natCast]
      rw [hr, prs_len, g0]
      have rng : ((0 : Int) ≤ (i : Int) ∧ (i : Int) < (d.length : Int)) ∧ shOK [.str, .int .i64, .int .i64, .int .i64, .str, .sl 6 ty_api_Value, .sl 7 ty_api_Pair] (pRow x) = true := ⟨⟨by omega, by omega⟩, row_ok _ _ _⟩
      refine ⟨rng, ⟨fun he => hR ?_, fun he => ⟨fun _ => rng, Let.intro ?_⟩⟩⟩
      · rw [hX, List.any_append, List.any_cons, he]; simp
      have ha' : (X ++ [x]).any (fun q => q.1 == p.1) = false := by
        rw [List.any_append, ha, List.any_cons, he]; rfl
      -- the rest of one round
      have go : ∀ (b' : Bool) (o : List Pr), o.length ≤ i + 1 → (if b' then insN p d = (o ++ [x]) ++ R else (o ++ [x] = X ++ [x] ∧ ∀ q ∈ X ++ [x], bl p.1 q.1 = false)) →
          C_r16_put_13 (prs d) b' i p.1 p.2.k p.2.n p.2.g p.2.s (p.2.l.map V.row) (p.2.d.map pRow) (prs o) (K_r16_put_3 K) := by
        intro b' o hol' hb'
        refine C_r16_put_13_of _ _ _ _ _ _ _ _ _ _ _ _ ?_
        simp only [Int.toNat_natCast]
        rw [hr, row_form, prs_len, prs_len]
        refine ⟨rng, ⟨by constructor <;> omega, ?_⟩⟩
        refine K_r16_put_3_x0 _ _ _ _ _ _ _ _ _ _ _ _ (C_r16_put_14_of _ _ _ _ _ _ _ _ _ _ _ _ ?_)
        rw [w]
        refine K_r16_put_2_x0 _ _ _ _ _ _ _ _ _ _ _ _ ?_
        have e : prs o ++ [pRow x] = prs (o ++ [x]) := by simp [prs]
        rw [e]
        exact L_put d p hd K hR hE R (X ++ [x]) (i + 1) b' (o ++ [x]) hxd (by simp; omega) ha' hb'
      refine ⟨fun hl => ?_, fun hl => ?_⟩
      · have hb0 : b = false := by cases b <;> simp_all
        subst hb0
        have hl : bl p.1 x.1 = true := hl
        have e : prs out ++ [[.str p.1, .int .i64 p.2.k, .int .i64 p.2.n, .int .i64 p.2.g, .str p.2.s, .sl .any 6 (p.2.l.map V.row), .sl .any 7 (p.2.d.map pRow)]] = prs (out ++ [p]) := by
          rw [← pRow_eq]; simp [prs]
        rw [e, prs_len]
        refine ⟨by constructor <;> omega, go true (out ++ [p]) (by rw [hb.1]; simp; omega) ?_⟩
        show insN p d = _
        rw [hX, insN_app p X _ hb.2, hb.1, insN, hl]
        simp
      · refine go b out hol ?_
        cases b with
        | true =>
          have hb : insN p d = out ++ (x :: R) := hb
          show insN p d = _
          rw [hb]; simp
        | false =>
          have hl : bl p.1 x.1 = false := hl
          refine ⟨by rw [hb.1], fun q hq => ?_⟩
          rcases List.mem_append.1 hq with hq | hq
          · exact hb.2 q hq
          · rw [List.mem_singleton] at hq; rw [hq]; exact hl
    · have := of_decide_eq_false h
      rw [prs_len] at this; omega
theorem S_put (d : List Pr) (p : Pr) (hd : d.length ≤ 1000000000000) : Call E0.P fn_r16_put [.imm (.sl .any 7 (prs d)), .imm (.agg (pRow p))] [] (Is (.imm (.sl .any 7 (prs (put d p)))) []) := by
  rw [pRow_eq]
  refine F_r16_put_of _ _ _ _ _ _ _ _ _ ?_
  refine L_put d p hd _ (fun h => ?_) (fun b out ha hb => ?_) d [] 0 false [] rfl rfl rfl ⟨rfl, by simp⟩
  · refine K_r16_put_1_x0 _ _ ?_
    rw [Va.put, h]; exact ⟨rfl, rfl⟩
  · refine K_r16_put_1_x1 _ _ _ _ _ _ _ _ _ _ (C_r16_put_15_of _ _ _ _ _ _ _ _ _ _ ⟨fun hn => ?_, fun hn => ?_⟩)
    · have hb0 : b = false := by cases b <;> simp_all
      subst hb0
      obtain ⟨h1, h2⟩ := hb
      subst h1
      have e : prs out ++ [[.str p.1, .int .i64 p.2.k, .int .i64 p.2.n, .int .i64 p.2.g, .str p.2.s, .sl .any 6 (p.2.l.map V.row), .sl .any 7 (p.2.d.map pRow)]] = prs (insN p out) := by
        rw [← pRow_eq, h2]; simp [prs]
      rw [e, prs_len]
      refine ⟨by constructor <;> omega, K_r16_put_0_x0 _ _ ?_⟩
      rw [Va.put, ha]; exact ⟨rfl, rfl⟩
    · have hb0 : b = true := by cases b <;> simp_all
      subst hb0
      have hb : insN p d = out := hb
      refine K_r16_put_0_x0 _ _ ?_
      rw [Va.put, ha, ← hb]; exact ⟨rfl, rfl⟩
abbrev RPlainAt (v : V) : Prop := Call E0.P fn_r16_Plain [.imm (.agg v.row)] [] (Is (.imm (.agg v.plain.row)) [])
theorem foldput_len (l : List Pr) : (l.foldl put []).length ≤ l.length := by rw [put_uniq]; exact uniq_len l
theorem L_rp1 (d : List Pr) (hd : d.length ≤ 1000000000000) (ih : ∀ p ∈ d, RPlainAt p.2) (K : Ex → St → Prop) (hE : K (.exit 0) ⟨[(3, (.imm (.sl .any 7 (prs ((plP d).foldl put [])))))], []⟩) :
    ∀ (R X : List Pr) (i : Nat), d = X ++ R → i = X.length → L_r16_pairs_3 (prs d) i (prs ((plP X).foldl put [])) K
  | [], X, i, hX, hi => by
    simp only [List.append_nil] at hX
    subst hX
    refine L_r16_pairs_3_of _ _ _ _ ⟨fun h => ?_, fun _ => hE⟩
    have := of_decide_eq_true h
    rw [prs_len] at this; omega
  | x :: R, X, i, hX, hi => by
    have hlt : i < d.length := by rw [hX]; simp; omega
    have hx : pAt d i = x := by rw [hX]; exact pAt_mid _ _ _ _ hi
    have hr := prow_at d i hlt
    rw [hx] at hr
    have w : IntKind.i64.wrap ((i : Int) + 1) = ((i + 1 : Nat) : Int) := by rw [wrap_id _ (by omega) (by omega)]; simp
    refine L_r16_pairs_3_of _ _ _ _ ⟨fun _ => ?_, fun h => ?_⟩
    · simp only [Int.toNat_natCast]
      rw [hr, prs_len, prow_tail, w]
      have rng : ((0 : Int) ≤ (i : Int) ∧ (i : Int) < (d.length : Int)) ∧ shOK [.str, .int .i64, .int .i64, .int .i64, .str, .sl 6 ty_api_Value, .sl 7 ty_api_Pair] (pRow x) = true := ⟨⟨by omega, by omega⟩, row_ok _ _ _⟩
      refine ⟨rng, ⟨rng, ?_⟩⟩
      refine Call.use (ih x (by rw [hX]; simp)) ⟨⟨rfl, ?_⟩, ?_⟩
      · rw [vres, vrow_form]
      rw [vres, prow_join]
      have hl := foldput_len (plP X)
      have hl2 : (plP X).length = X.length := by simp [plP]
      refine Call.use (S_put _ _ (by omega)) ⟨⟨rfl, rfl⟩, ?_⟩
      have e : put ((plP X).foldl put []) (x.1, x.2.plain) = (plP (X ++ [x])).foldl put [] := by simp [plP, List.foldl_append]
      rw [e]
      exact L_rp1 d hd ih K hE R (X ++ [x]) (i + 1) (by rw [hX]; simp) (by simp; omega)
    · have := of_decide_eq_false h
      rw [prs_len] at this; omega
theorem L_rp2 (d : List Pr) (hd : d.length ≤ 1000000000000) (K : Ex → St → Prop) (hE : K (.exit 2) ⟨[(5, (.own (Nm.loc (28 : Nat))))], [((Nm.loc (28 : Nat)), (.arr 0 true 7 (prs (d.filter nul))))]⟩) :
    ∀ (R X : List Pr) (i : Nat), d = X ++ R → i = X.length → L_r16_pairs_11 i (prs d) (prs (X.filter nul)) K
  | [], X, i, hX, hi => by
    simp only [List.append_nil] at hX
    subst hX
    refine L_r16_pairs_11_of _ _ _ _ ⟨fun h => ?_, fun _ => hE⟩
    have := of_decide_eq_true h
    rw [prs_len] at this; omega
  | x :: R, X, i, hX, hi => by
    have hlt : i < d.length := by rw [hX]; simp; omega
    have hx : pAt d i = x := by rw [hX]; exact pAt_mid _ _ _ _ hi
    have hr := prow_at d i hlt
    rw [hx] at hr
    have g1 : gI (pRow x) 1 = x.2.k := by rw [pRow_eq]; rfl
    have w : IntKind.i64.wrap ((i : Int) + 1) = ((i + 1 : Nat) : Int) := by rw [wrap_id _ (by omega) (by omega)]; simp
    have hfl : (X.filter nul).length ≤ X.length := List.length_filter_le _ _
    refine L_r16_pairs_11_of _ _ _ _ ⟨fun _ => ?_, fun h => ?_⟩
    · rw [show (prs d).getD (Int.toNat (i : Int)) [] = pRow x from hr, prs_len, prs_len, row_form, g1]
      have rng : ((0 : Int) ≤ (i : Int) ∧ (i : Int) < (d.length : Int)) ∧ shOK [.str, .int .i64, .int .i64, .int .i64, .str, .sl 6 ty_api_Value, .sl 7 ty_api_Pair] (pRow x) = true := ⟨⟨by omega, by omega⟩, row_ok _ _ _⟩
      refine ⟨rng, ⟨fun hk => ⟨rng, ⟨by constructor <;> omega, ?_⟩⟩, fun hk => ?_⟩⟩
      · have hk : nul x = true := hk
        have e : prs (X.filter nul) ++ [pRow x] = prs ((X ++ [x]).filter nul) := by rw [List.filter_append]; simp [hk, prs]
        refine C_r16_pairs_16_of _ _ _ _ ?_
        rw [w, e]
        exact K_r16_pairs_4_x0 _ _ _ _ (L_rp2 d hd K hE R (X ++ [x]) (i + 1) (by rw [hX]; simp) (by simp; omega))
      · have hk : nul x = false := hk
        have e : prs (X.filter nul) = prs ((X ++ [x]).filter nul) := by rw [List.filter_append]; simp [hk, prs]
        refine C_r16_pairs_16_of _ _ _ _ ?_
        rw [w, e]
        exact K_r16_pairs_4_x0 _ _ _ _ (L_rp2 d hd K hE R (X ++ [x]) (i + 1) (by rw [hX]; simp) (by simp; omega))
    · have := of_decide_eq_false h
      rw [prs_len] at this; omega
theorem S_rpairs (d : List Pr) (hd : d.length ≤ 1000000000000) (ih : ∀ p ∈ d, RPlainAt p.2) : Call E0.P fn_r16_pairs [.imm (.sl .any 7 (prs d))] [] (Is (.imm (.sl .any 7 (prs (plD d)))) []) := by
  refine F_r16_pairs_of _ _ ?_
  have hl := foldput_len (plP d)
  have hl2 : (plP d).length = d.length := by simp [plP]
  refine L_rp1 d hd ih _ (K_r16_pairs_1_x0 _ _ (C_r16_pairs_8_of _ _ ?_)) d [] 0 rfl rfl
  refine L_rp2 _ (by omega) _ (K_r16_pairs_3_x0 _ _ (C_r16_pairs_17_of _ _ (K_r16_pairs_2_x0 _ _ (K_r16_pairs_0_x0 _ _ ?_)))) _ [] 0 rfl rfl
  rw [put_uniq]; exact ⟨rfl, rfl⟩
end Go.Proofs.Sim.Se

namespace Go.Proofs.Sim.Se
open Go Go.Proofs Go.Proofs.Sim Go.Proofs.Sim.Va Go.Proofs.Sim.St

structure GN (Q : AV → Heap → Prop) (K : Ex → St → Prop) : Prop where
  norm : ∀ (a b c y0 y1 y2 : Int) (s ys : List UInt8) (l d p q : List (List IV)), Q (vcell a b c s l d) [] → K .normal ⟨[(2, (.ptr (Nm.loc (2 : Nat)) 0)), (3, (.ptr (Nm.loc (3 : Nat)) 0))], [((Nm.loc (2 : Nat)), (.blk ty_api_Value [(.imm (.int .i64 y0)), (.imm (.int .i64 y1)), (.imm (.int .i64 y2)), (.imm (.str ys)), (.own ((Nm.loc (2 : Nat)).cell (4 : Nat))), (.own ((Nm.loc (2 : Nat)).cell (5 : Nat)))])), ((Nm.loc (3 : Nat)), (.blk ty_api_Value [(.imm (.int .i64 a)), (.imm (.int .i64 b)), (.imm (.int .i64 c)), (.imm (.str s)), (.imm (.sl .any 6 l)), (.imm (.sl .any 7 d))])), (((Nm.loc (2 : Nat)).cell (4 : Nat)), (.arr (ty_api_Value + 2) true 6 p)), (((Nm.loc (2 : Nat)).cell (5 : Nat)), (.arr (ty_api_Pair + 2) true 7 q))]⟩
  ret : ∀ (a b c : Int) (s : List UInt8) (l d : List (List IV)), Q (vcell a b c s l d) [] → K .ret ⟨[(2, (.ptr (Nm.loc (2 : Nat)) 0))], [((Nm.loc (2 : Nat)), (.blk ty_api_Value [(.imm (.int .i64 a)), (.imm (.int .i64 b)), (.imm (.int .i64 c)), (.imm (.str s)), (.own ((Nm.loc (2 : Nat)).cell (4 : Nat))), (.own ((Nm.loc (2 : Nat)).cell (5 : Nat)))])), (((Nm.loc (2 : Nat)).cell (4 : Nat)), (.arr (ty_api_Value + 2) true 6 l)), (((Nm.loc (2 : Nat)).cell (5 : Nat)), (.arr (ty_api_Pair + 2) true 7 d))]⟩
theorem GN_1 (Q : AV → Heap → Prop) : GN Q (K_r16_Plain_1 Q) := ⟨fun a b c y0 y1 y2 s ys l d p q h => K_r16_Plain_1_x0 Q y0 y1 y2 ys a b c s l d p q (C_r16_Plain_20_of _ _ _ _ _ _ _ _ _ _ _ _ _ (K_r16_Plain_0_x0 Q _ _ _ _ _ _ h)), fun a b c s l d h => K_r16_Plain_1_x1 Q a b c s l d h⟩
theorem GN_2 {Q : AV → Heap → Prop} {K : Ex → St → Prop} (h : GN Q K) : GN Q (K_r16_Plain_2 K) := ⟨fun a b c y0 y1 y2 s ys l d p q hq => K_r16_Plain_2_x0 K _ _ _ _ _ _ _ _ _ _ _ _ (h.norm _ _ _ _ _ _ _ _ _ _ _ _ hq), fun a b c s l d hq => K_r16_Plain_2_x1 K _ _ _ _ _ _ (h.ret _ _ _ _ _ _ hq)⟩
theorem R_10 (l : List V) (hl : l.length ≤ 1000000000000) (ih : ∀ x ∈ l, RPlainAt x) (x0 x1 x2 y0 y1 y2 z0 z1 z2 : Int) (xs ys zs : List UInt8) (x5 z4 z5 p q : List (List IV))
    (Q : AV → Heap → Prop) (K : Ex → St → Prop) (hK : GN Q K) (hq : Q (vcell z0 z1 z2 zs (vrs (l.map V.plain)) z5) []) : ∀ (R X : List V) (i : Nat), l = X ++ R → i = X.length →
    L_r16_Plain_10 i x0 x1 x2 xs (vrs l) x5 y0 y1 y2 ys (vrs (X.map V.plain)) z0 z1 z2 zs z4 z5 p q (K_r16_Plain_3 K)
  | [], X, i, hX, hi => by
    simp only [List.append_nil] at hX
    subst hX
    refine L_r16_Plain_10_of _ _ _ _ _ _ _ _ _ _ _ _ _ _ _ _ _ _ _ _ _ ⟨fun h => ?_, fun _ => ?_⟩
    · have := of_decide_eq_true h
      rw [vrs_len] at this; omega
    · exact K_r16_Plain_3_x0 _ _ _ _ _ _ _ _ _ _ _ _ _ _ (C_r16_Plain_15_of _ _ _ _ _ _ _ _ _ _ _ _ _ _ ((GN_2 hK).norm _ _ _ _ _ _ _ _ _ _ _ _ hq))
  | x :: R, X, i, hX, hi => by
    have hlt : i < l.length := by rw [hX]; simp; omega
    have hx : vAt l i = x := by rw [hX, hi]; simp [vAt, List.getD_eq_getElem?_getD]
    have hr := vrow_at l i hlt
    rw [hx] at hr
    have w : IntKind.i64.wrap ((i : Int) + 1) = ((i + 1 : Nat) : Int) := by rw [wrap_id _ (by omega) (by omega)]; simp
    refine L_r16_Plain_10_of _ _ _ _ _ _ _ _ _ _ _ _ _ _ _ _ _ _ _ _ _ ⟨fun _ => ?_, fun h => ?_⟩
    · rw [show (vrs l).getD (Int.toNat (i : Int)) [] = x.row from hr, vrow_form, w]
      refine ⟨⟨⟨by omega, by rw [vrs_len]; omega⟩, vrow_ok _ _ _⟩, ?_⟩
      refine Call.use (ih x (by rw [hX]; simp)) ⟨⟨rfl, ?_⟩, ?_⟩
      · rw [vres, vrow_form]
      · rw [vres, vrow_form]
        refine ⟨by rw [vrs_len, List.length_map]; constructor <;> omega, ?_⟩
        have e : vrs (X.map V.plain) ++ [x.plain.row] = vrs ((X ++ [x]).map V.plain) := by simp [vrs]
        rw [e]
        exact R_10 l hl ih _ _ _ _ _ _ _ _ _ _ _ _ _ _ _ _ _ Q K hK hq R (X ++ [x]) (i + 1) (by rw [hX]; simp) (by simp; omega)
    · have := of_decide_eq_false h
      rw [vrs_len] at this; omega
theorem R_4 (v : V) (h1 : v.l.length ≤ 1000000000000) (h2 : v.d.length ≤ 1000000000000) (ih1 : ∀ x ∈ v.l, RPlainAt x) (ih2 : ∀ p ∈ v.d, RPlainAt p.2) (b : Bool) (hb1 : b = true → v.k = 1 ∨ v.k = 2) (hb2 : b = false → ¬ v.k = 1 ∧ ¬ v.k = 2) :
    C_r16_Plain_4 v.k b v.k v.n v.g v.s (vrs v.l) (prs v.d) 0 0 0 [] v.k 0 0 [] [] [] [] [] (K_r16_Plain_1 (Is (.imm (.agg v.plain.row)) [])) := by
  have hp := plain_row v
  generalize hQ : Is (.imm (.agg v.plain.row)) [] = Q
  have hG := GN_1 Q
  have fin : ∀ (a b c : Int) (s : List UInt8) (l d : List (List IV)), v.plain.row = [.int .i64 a, .int .i64 b, .int .i64 c, .str s, .sl .any 6 l, .sl .any 7 d] → Q (vcell a b c s l d) [] := by
    intro a b c s l d h
    rw [← hQ]
    exact ⟨by rw [h], rfl⟩
  refine C_r16_Plain_4_of _ _ _ _ _ _ _ _ _ _ _ _ _ _ _ _ _ _ _ _ _ ⟨fun h => hG.norm _ _ _ _ _ _ _ _ _ _ _ _ (fin _ _ _ _ _ _ ?_), fun h => ?_⟩
  · rw [hp]
    rcases hb1 h with e | e <;> rw [e] <;> rfl
  obtain ⟨k1, k2⟩ := hb2 h
  have hG2 := GN_2 hG
  have six : ∀ (c : Bool), (c = true → v.k = 3 ∨ v.k = 4) → (c = false → ¬ v.k = 3 ∧ ¬ v.k = 4) →
      C_r16_Plain_6 v.k c v.k v.n v.g v.s (vrs v.l) (prs v.d) 0 0 0 [] v.k 0 0 [] [] [] [] [] (K_r16_Plain_2 (K_r16_Plain_1 Q)) := by
    intro c hc1 hc2
    refine C_r16_Plain_6_of _ _ _ _ _ _ _ _ _ _ _ _ _ _ _ _ _ _ _ _ _ ⟨fun h => hG2.norm _ _ _ _ _ _ _ _ _ _ _ _ (fin _ _ _ _ _ _ ?_), fun h => ?_⟩
    · rw [hp]
      rcases hc1 h with e | e <;> rw [e] <;> rfl
    obtain ⟨k3, k4⟩ := hc2 h
    refine ⟨fun h => ?_, fun h => ?_⟩
    · have k5 : v.k = 5 := of_decide_eq_true h
      refine R_10 v.l h1 ih1 _ _ _ _ _ _ _ _ _ _ _ _ _ _ _ _ _ Q _ hG2 (fin _ _ _ _ _ _ ?_) v.l [] 0 rfl rfl
      rw [hp, k5]; rfl
    have k5 : ¬ v.k = 5 := of_decide_eq_false h
    refine ⟨fun h => ?_, fun h => ?_⟩
    · have k6 : v.k = 6 := of_decide_eq_true h
      refine Call.use (S_rpairs v.d h2 ih2) ⟨⟨rfl, rfl⟩, hG2.norm _ _ _ _ _ _ _ _ _ _ _ _ (fin _ _ _ _ _ _ ?_)⟩
      rw [hp, k6]; rfl
    have k6 : ¬ v.k = 6 := of_decide_eq_false h
    refine ⟨fun h => ?_, fun h => ?_⟩
    · have k7 : v.k = 7 := of_decide_eq_true h
      refine hG2.norm _ _ _ _ _ _ _ _ _ _ _ _ (fin _ _ _ _ _ _ ?_)
      rw [hp, k7]; rfl
    have k7 : ¬ v.k = 7 := of_decide_eq_false h
    refine ⟨fun h => ?_, fun h => ?_⟩
    · have k8 : v.k = 8 := of_decide_eq_true h
      refine Call.use (S_rpairs v.d h2 ih2) ⟨⟨rfl, rfl⟩, hG2.norm _ _ _ _ _ _ _ _ _ _ _ _ (fin _ _ _ _ _ _ ?_)⟩
      rw [hp, k8]; rfl
    have k8 : ¬ v.k = 8 := of_decide_eq_false h
    refine hG2.ret _ _ _ _ _ _ (fin _ _ _ _ _ _ ?_)
    have hz := zero_row
    have hpl : v.plain = zero ∨ v.k = 0 := by
      by_cases k0 : v.k = 0
      · exact .inr k0
      · left
        rw [plain_eq]; unfold mkP
        simp [k1, k2, k3, k4, k5, k6, k7, k8]
    rcases hpl with e | e
    · rw [e, hz]
    · rw [hp, e]; rfl
  refine ⟨fun h => ?_, fun h => ?_⟩
  · have e := of_decide_eq_true h
    exact six _ (fun _ => .inl e) (fun h' => absurd e (of_decide_eq_false h'))
  · have e : ¬ v.k = 3 := of_decide_eq_false h
    exact six _ (fun h' => .inr (of_decide_eq_true h')) (fun h' => ⟨e, of_decide_eq_false h'⟩)
theorem S_RPlain (v : V) (hf : Fit v) : RPlainAt v := by
  induction hf with
  | mk v h1 h2 _ _ ih1 ih2 =>
    show Call E0.P fn_r16_Plain [.imm (.agg v.row)] [] _
    have key := R_4 v h1 h2 ih1 ih2
    generalize Is (.imm (.agg v.plain.row)) [] = Q at key ⊢
    rw [row_eq]
    refine F_r16_Plain_of _ _ _ _ _ _ _ ⟨fun h => ?_, fun h => ?_⟩
    · have e : v.k = 1 := of_decide_eq_true h
      exact key _ (fun _ => .inl e) (fun h' => absurd e (of_decide_eq_false h'))
    · have e : ¬ v.k = 1 := of_decide_eq_false h
      exact key _ (fun h' => .inr (of_decide_eq_true h')) (fun h' => ⟨e, of_decide_eq_false h'⟩)

end Go.Proofs.Sim.Se

namespace Go.Proofs.Sim.Se
open Go Go.Proofs Go.Proofs.Sim Go.Proofs.Sim.Va Go.Proofs.Sim.St

theorem V.ext {a b : V} (h1 : a.k = b.k) (h2 : a.n = b.n) (h3 : a.g = b.g) (h4 : a.s = b.s) (h5 : a.l = b.l) (h6 : a.d = b.d) : a = b := by
  cases a; cases b
  simp only [V.k, V.n, V.g, V.s, V.l, V.d] at h1 h2 h3 h4 h5 h6
  subst h1 h2 h3 h4 h5 h6; rfl
def EqR (a b : V) (r : AV) (h : Heap) : Prop := ∃ c : Bool, r = .imm (.bool c) ∧ h = [] ∧ (c = true ↔ a = b)
abbrev EqAt (a b : V) : Prop := Call E0.P fn_r16_Equal [.imm (.agg a.row), .imm (.agg b.row)] [] (EqR a b)
theorem L_eqD (a b : V) (hl : a.d.length ≤ 1000000000000) (hab : a.d.length = b.d.length) (ih : ∀ p ∈ a.d, ∀ q ∈ b.d, EqAt p.2 q.2) (x0 x1 x2 y0 y1 y2 : Int) (xs ys : List UInt8) (x4 y4 : List (List IV)) (K : Ex → St → Prop)
    (hF : a.d ≠ b.d → K .ret ⟨[(4, .imm (.bool false))], []⟩) (hT : a.d = b.d → K (.exit 2) ⟨[], []⟩) : ∀ (n i : Nat), n + i = a.d.length → a.d.take i = b.d.take i →
    L_r16_Equal_14 i x0 x1 x2 xs x4 (prs a.d) y0 y1 y2 ys y4 (prs b.d) K
  | 0, i, hn, ht => by
    refine L_r16_Equal_14_of _ _ _ _ _ _ _ _ _ _ _ _ _ _ ⟨fun h => ?_, fun _ => hT ?_⟩
    · have := of_decide_eq_true h
      rw [prs_len] at this; omega
    · rw [List.take_of_length_le (by omega), List.take_of_length_le (by omega)] at ht
      exact ht
  | n + 1, i, hn, ht => by
    have hia : i < a.d.length := by omega
    have hib : i < b.d.length := by omega
    have w : IntKind.i64.wrap ((i : Int) + 1) = ((i + 1 : Nat) : Int) := by rw [wrap_id _ (by omega) (by omega)]; simp
    refine L_r16_Equal_14_of _ _ _ _ _ _ _ _ _ _ _ _ _ _ ⟨fun _ => ?_, fun h => ?_⟩
    · rw [show (prs a.d).getD (Int.toNat (i : Int)) [] = pRow (pAt a.d i) from prow_at _ _ hia, show (prs b.d).getD (Int.toNat (i : Int)) [] = pRow (pAt b.d i) from prow_at _ _ hib, prow_tail, prow_tail, prs_len, prs_len]
      have g0 : ∀ x : Pr, gS (pRow x) 0 = x.1 := fun x => by rw [pRow_eq]; rfl
      rw [g0, g0]
      have ea : pAt a.d i = a.d[i] := by simp [pAt, List.getD_eq_getElem?_getD, hia]
      have eb : pAt b.d i = b.d[i] := by simp [pAt, List.getD_eq_getElem?_getD, hib]
      have ma : pAt a.d i ∈ a.d := by rw [ea]; exact List.getElem_mem hia
      have mb : pAt b.d i ∈ b.d := by rw [eb]; exact List.getElem_mem hib
      have r1 : ((0 : Int) ≤ (i : Int) ∧ (i : Int) < (a.d.length : Int)) ∧ shOK [.str, .int .i64, .int .i64, .int .i64, .str, .sl 6 ty_api_Value, .sl 7 ty_api_Pair] (pRow (pAt a.d i)) = true := ⟨⟨by omega, by omega⟩, row_ok _ _ _⟩
      have r2 : ((0 : Int) ≤ (i : Int) ∧ (i : Int) < (b.d.length : Int)) ∧ shOK [.str, .int .i64, .int .i64, .int .i64, .str, .sl 6 ty_api_Value, .sl 7 ty_api_Pair] (pRow (pAt b.d i)) = true := ⟨⟨by omega, by omega⟩, row_ok _ _ _⟩
      have ne : pAt a.d i ≠ pAt b.d i → a.d ≠ b.d := fun h e => h (by rw [e])
      have go : pAt a.d i = pAt b.d i → C_r16_Equal_20 i x0 x1 x2 xs x4 (prs a.d) y0 y1 y2 ys y4 (prs b.d) (K_r16_Equal_4 K) := by
        intro e
        refine C_r16_Equal_20_of _ _ _ _ _ _ _ _ _ _ _ _ _ _ ?_
        rw [w]
        refine K_r16_Equal_4_x0 _ _ _ _ _ _ _ _ _ _ _ _ _ _ (L_eqD a b hl hab ih _ _ _ _ _ _ _ _ _ _ K hF hT n (i + 1) (by omega) ?_)
        rw [List.take_add_one, List.take_add_one, ht]
        congr 1
        rw [ea, eb] at e
        simp [hia, hib, e]
      refine ⟨r1, ⟨r2, ⟨fun _ => r1, ⟨fun _ => r2, ⟨fun hk => ?_, fun hk => ?_⟩⟩⟩⟩⟩
      · refine (ih _ ma _ mb).mono ?_
        rintro r h ⟨c, rfl, rfl, hc⟩
        refine ⟨⟨rfl, rfl⟩, Let.intro ⟨fun hcf => ?_, fun hct => ?_⟩⟩
        · have hcf : (!c) = true := hcf
          refine hF (ne fun e => ?_)
          have : c = true := hc.2 (by rw [e])
          rw [this] at hcf; cases hcf
        · have hct : (!c) = false := hct
          refine go (Prod.ext ?_ ?_)
          · simpa using hk
          · exact hc.1 (by simpa using hct)
      · refine ⟨rfl, Let.intro ⟨fun _ => hF (ne fun e => ?_), fun h => absurd h (by decide)⟩⟩
        rw [e] at hk; simp at hk
    · have := of_decide_eq_false h
      rw [prs_len] at this; omega
theorem L_eqL (a b : V) (hl : a.l.length ≤ 1000000000000) (hab : a.l.length = b.l.length) (ih : ∀ p ∈ a.l, ∀ q ∈ b.l, EqAt p q) (x0 x1 x2 y0 y1 y2 : Int) (xs ys : List UInt8) (x5 y5 : List (List IV)) (K : Ex → St → Prop)
    (hF : a.l ≠ b.l → K .ret ⟨[(4, .imm (.bool false))], []⟩) (hT : a.l = b.l → K (.exit 0) ⟨[(2, (.ptr (Nm.loc (2 : Nat)) 0)), (3, (.ptr (Nm.loc (3 : Nat)) 0))], [((Nm.loc (2 : Nat)), (.blk ty_api_Value [(.imm (.int .i64 x0)), (.imm (.int .i64 x1)), (.imm (.int .i64 x2)), (.imm (.str xs)), (.imm (.sl .any 6 (vrs a.l))), (.imm (.sl .any 7 x5))])), ((Nm.loc (3 : Nat)), (.blk ty_api_Value [(.imm (.int .i64 y0)), (.imm (.int .i64 y1)), (.imm (.int .i64 y2)), (.imm (.str ys)), (.imm (.sl .any 6 (vrs b.l))), (.imm (.sl .any 7 y5))]))]⟩) : ∀ (n i : Nat), n + i = a.l.length → a.l.take i = b.l.take i →
    L_r16_Equal_5 i x0 x1 x2 xs (vrs a.l) x5 y0 y1 y2 ys (vrs b.l) y5 K
  | 0, i, hn, ht => by
    refine L_r16_Equal_5_of _ _ _ _ _ _ _ _ _ _ _ _ _ _ ⟨fun h => ?_, fun _ => hT ?_⟩
    · have := of_decide_eq_true h
      rw [vrs_len] at this; omega
    · rw [List.take_of_length_le (by omega), List.take_of_length_le (by omega)] at ht
      exact ht
  | n + 1, i, hn, ht => by
    have hia : i < a.l.length := by omega
    have hib : i < b.l.length := by omega
    have w : IntKind.i64.wrap ((i : Int) + 1) = ((i + 1 : Nat) : Int) := by rw [wrap_id _ (by omega) (by omega)]; simp
    refine L_r16_Equal_5_of _ _ _ _ _ _ _ _ _ _ _ _ _ _ ⟨fun _ => ?_, fun h => ?_⟩
    · rw [show (vrs a.l).getD (Int.toNat (i : Int)) [] = (vAt a.l i).row from vrow_at _ _ hia, show (vrs b.l).getD (Int.toNat (i : Int)) [] = (vAt b.l i).row from vrow_at _ _ hib, vrow_form, vrow_form, vrs_len, vrs_len]
      have ea : vAt a.l i = a.l[i] := by simp [vAt, List.getD_eq_getElem?_getD, hia]
      have eb : vAt b.l i = b.l[i] := by simp [vAt, List.getD_eq_getElem?_getD, hib]
      have ma : vAt a.l i ∈ a.l := by rw [ea]; exact List.getElem_mem hia
      have mb : vAt b.l i ∈ b.l := by rw [eb]; exact List.getElem_mem hib
      have ne : vAt a.l i ≠ vAt b.l i → a.l ≠ b.l := fun h e => h (by rw [e])
      refine ⟨⟨⟨by omega, by omega⟩, vrow_ok _ _ _⟩, ⟨⟨⟨by omega, by omega⟩, vrow_ok _ _ _⟩, ?_⟩⟩
      refine (ih _ ma _ mb).mono ?_
      rintro r h ⟨c, rfl, rfl, hc⟩
      refine ⟨⟨rfl, rfl⟩, ⟨fun hcf => ?_, fun hct => ?_⟩⟩
      · have hcf : (!c) = true := hcf
        refine hF (ne fun e => ?_)
        have : c = true := hc.2 e
        rw [this] at hcf; cases hcf
      · have hct : (!c) = false := hct
        have e := hc.1 (by simpa using hct)
        rw [w]
        refine L_eqL a b hl hab ih _ _ _ _ _ _ _ _ _ _ K hF hT n (i + 1) (by omega) ?_
        rw [List.take_add_one, List.take_add_one, ht]
        congr 1
        rw [ea, eb] at e
        simp [hia, hib, e]
    · have := of_decide_eq_false h
      rw [vrs_len] at this; omega
theorem S_Equal (a : V) (ha : Fit a) : ∀ b : V, EqAt a b := by
  induction ha with
  | mk a h1 h2 _ _ ih1 ih2 =>
    intro b
    show Call E0.P fn_r16_Equal [.imm (.agg a.row), .imm (.agg b.row)] [] _
    generalize hQ : EqR a b = Q
    have hT : a = b → Q (.imm (.bool true)) [] := fun h => by rw [← hQ]; exact ⟨true, rfl, rfl, by simp [h]⟩
    have hF : a ≠ b → Q (.imm (.bool false)) [] := fun h => by rw [← hQ]; exact ⟨false, rfl, rfl, by simp [h]⟩
    rw [row_eq, row_eq b]
    refine F_r16_Equal_of _ _ _ _ _ _ _ _ _ _ _ _ _ (Let.intro (Let.intro (Let.intro (Let.intro (Let.intro ⟨fun h => ?_, fun h => ?_⟩)))))
    · refine hF fun e => ?_
      subst e
      simp at h
    · simp only [Bool.cond_true_left, Bool.or_eq_false_iff, Bool.not_eq_false', decide_eq_true_eq, List.length_map] at h
      obtain ⟨⟨⟨⟨⟨e1, e2⟩, e3⟩, e4⟩, e5⟩, e6⟩ := h
      have e4 : a.s = b.s := by simpa using e4
      have e5 : a.l.length = b.l.length := by omega
      have e6 : a.d.length = b.d.length := by omega
      refine L_eqL a b h1 e5 (fun p hp q _ => ih1 p hp q) _ _ _ _ _ _ _ _ _ _ _ (fun h => ?_) (fun hl => ?_) a.l.length 0 (by omega) rfl
      · exact K_r16_Equal_1_x0 _ _ (hF fun e => h (by rw [e]))
      · refine K_r16_Equal_1_x1 _ _ _ _ _ _ _ _ _ _ _ _ _ (C_r16_Equal_12_of _ _ _ _ _ _ _ _ _ _ _ _ _ ?_)
        refine L_eqD a b h2 e6 (fun p hp q _ => ih2 p hp q.2) _ _ _ _ _ _ _ _ _ _ _ (fun h => ?_) (fun hd => ?_) a.d.length 0 (by omega) rfl
        · exact K_r16_Equal_3_x0 _ _ (K_r16_Equal_0_x0 _ _ (hF fun e => h (by rw [e])))
        · exact K_r16_Equal_3_x1 _ (C_r16_Equal_21_of _ (K_r16_Equal_2_x0 _ _ (K_r16_Equal_0_x0 _ _ (hT (V.ext e1 e2 e3 e4 hl hd)))))
end Go.Proofs.Sim.Se

namespace Go.Proofs.Sim.Se
open Go Go.Proofs Go.Proofs.Sim Go.Proofs.Sim.Va Go.Proofs.Sim.St

def cntV : V → Nat
  | .mk k n g s l d => 1 + (l.attach.map fun ⟨v, h⟩ => cntV v).sum + (d.attach.map fun ⟨p, h⟩ => cntV p.2).sum
 termination_by v => SizeOf.sizeOf v
 decreasing_by
  · exact sz_l h
  · exact sz_d h
theorem cnt_eq (v : V) : cntV v = 1 + (v.l.map cntV).sum + (v.d.map fun p => cntV p.2).sum := by
  obtain ⟨k, n, g, s, l, d⟩ := v
  rw [cntV]
  simp only [V.l, V.d]
  congr 1
  · congr 2
    simp
  · congr 1
    apply List.ext_getElem <;> simp
theorem cnt_pos (v : V) : 1 ≤ cntV v := by rw [cnt_eq]; omega
theorem sum_len {α : Type} (f : α → Nat) (l : List α) (h : ∀ x ∈ l, 1 ≤ f x) : l.length ≤ (l.map f).sum := by
  induction l with
  | nil => simp
  | cons x l ih =>
    have := ih fun y hy => h y (by simp [hy])
    have := h x (by simp)
    simp; omega
theorem sum_mem {α : Type} (f : α → Nat) (l : List α) (x : α) (h : x ∈ l) : f x ≤ (l.map f).sum := by
  induction l with
  | nil => simp at h
  | cons y l ih =>
    simp only [List.map_cons, List.sum_cons]
    rcases List.mem_cons.1 h with rfl | h
    · omega
    · have := ih h; omega
theorem fit_cnt (n : Nat) (hn : n ≤ 1000000000000) : ∀ (m : Nat) (v : V), SizeOf.sizeOf v ≤ m → cntV v ≤ n → Fit v := by
  intro m
  induction m with
  | zero => intro v h; exact absurd h (by cases v; simp)
  | succ m ih =>
    intro v hm hv
    have he := cnt_eq v
    have h1 := sum_len cntV v.l fun x _ => cnt_pos x
    have h2 := sum_len (fun p : Pr => cntV p.2) v.d fun x _ => cnt_pos x.2
    refine .mk v (by omega) (by omega) (fun x hx => ?_) (fun p hp => ?_)
    · have := sum_mem cntV v.l x hx
      obtain ⟨k, n', g, s, l, d⟩ := v
      have := sz_l (k := k) (n := n') (g := g) (s := s) (d := d) (show x ∈ l from hx)
      exact ih x (by omega) (by omega)
    · have := sum_mem (fun p : Pr => cntV p.2) v.d p hp
      obtain ⟨k, n', g, s, l, d⟩ := v
      have := sz_d (k := k) (n := n') (g := g) (s := s) (l := l) (show p ∈ d from hp)
      exact ih p.2 (by omega) (by omega)
end Go.Proofs.Sim.Se
