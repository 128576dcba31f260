import Derived.Test.YtcdjheflchglaaaSimD
namespace Go.Proofs.Sim
open Go

def mFind : List (List UInt8 × Int) → List UInt8 → Nat → Option (Nat × Value)
  | [], _, _ => none
  | (k, v) :: r, x, i => if x = k then some (i, .int .i64 v) else mFind r x (i + 1)
theorem bytes_eq {x s : ByteArray} : x.data.toList = s.data.toList ↔ x = s := by
  constructor
  · intro h
    cases x; cases s
    simp only [Array.toList_inj] at h
    simp [h]
  · intro h; rw [h]
theorem beq_bytes (x s : ByteArray) : (x == s) = decide (x = s) := by
  have h : (x == s) = (x.data == s.data) := by cases x; cases s; rfl
  rw [h]
  by_cases e : x = s
  · subst e; simp
  · have : ¬ x.data = s.data := fun h => e (by cases x; cases s; simp at h; rw [h])
    simp [e, this]
theorem findNow_str (x : ByteArray) : ∀ (es : List MapEntry) (l : List (List UInt8 × Int)) (i : Nat), MapOK es l → Instr.findNow .string (.string x) es i = some (mFind l x.data.toList i)
  | [], [], _, _ => rfl
  | [], _ :: _, _, h => h.elim
  | _ :: _, [], _, h => h.elim
  | e :: es, (k, v) :: l, i, h => by
    obtain ⟨⟨s, hk, hs⟩, hv, h⟩ := h
    have ih := findNow_str x es l (i + 1) h
    subst hs
    unfold Instr.findNow mFind
    rw [hk]
    simp only [Instr.sameNow]
    by_cases hx : x = s
    · subst hx
      rw [beq_bytes]
      simp [hv]
    · have : ¬ x.data.toList = s.data.toList := fun h => hx (bytes_eq.1 h)
      rw [if_neg this]
      have hb : (x == s) = false := by rw [beq_bytes]; simpa using hx
      rw [hb]
      exact ih
theorem mLook_find (l : List (List UInt8 × Int)) (x : List UInt8) : ∀ i, (mFind l x i = none ∧ mLook l x = 0) ∨ ∃ j v, mFind l x i = some (j, .int .i64 v) ∧ mLook l x = v := by
  induction l with
  | nil => intro i; exact .inl ⟨rfl, rfl⟩
  | cons a l ih =>
    obtain ⟨k, v⟩ := a
    intro i
    unfold mFind mLook
    by_cases h : x = k
    · simp only [if_pos h]; exact .inr ⟨_, _, rfl, rfl⟩
    · simp only [if_neg h]; exact ih _
theorem checkKey_run {P : Program} {k : Nat} (hk : P.underlying k = some .string) (e : Bool) (d : Nat) (s : ByteArray) (w : World) : (Instr.checkKey e (d + 1) k (.string s)).run P w = .ok () w := by
  unfold Instr.checkKey
  simp [run_underlying hk]
theorem findKey_run {P : Program} {k : Nat} (hk : P.underlying k = some .string) (x : ByteArray) {es : List MapEntry} {l : List (List UInt8 × Int)} (h : MapOK es l) (w : World) : (Instr.findKey k (.string x) es).run P w = .ok (mFind l x.data.toList 0) w := by
  unfold Instr.findKey
  simp [run_underlying hk, findNow_str x es l 0 h]
theorem getObj_run {P : Program} {w : World} {b : Nat} {es : Array MapEntry} {c : Nat} (h : w.heap[b]? = some (.map es c)) : (getObj b).run P w = .ok (.map es c) w := by
  simp [getObj, Sem.run, h]
theorem lookup_run {P : Program} {t k e : Nat} (ht : P.underlying t = some (.map k e)) (hk : P.underlying k = some .string) {i : TypeInfo} (hi : P.info? e = some i) (hz : i.zero = some (.int .i64 0)) (x : ByteArray) {w : World} {b clock : Nat} {es : Array MapEntry} {l : List (List UInt8 × Int)} (hb : w.heap[b]? = some (.map es clock)) (h : MapOK es.toList l) :
    (Instr.lookup t (.map (some b)) (.string x) false).run P w = .ok (.int .i64 (mLook l x.data.toList)) w := by
  unfold Instr.lookup
  have hc := checkKey_run hk es.isEmpty 9999 x w
  have hz' : (zeroValue e).run P w = .ok (.int .i64 0) w := by simp [zeroValue, typeInfo, hi, hz]
  simp only [Sem.run_bind, run_underlying ht, Result.andThen_ok, getObj_run hb, Sem.run_pure]
  rw [show (10000 : Nat) = 9999 + 1 from rfl, hc]
  simp only [Result.andThen_ok, findKey_run hk x h w]
  rcases mLook_find l x.data.toList 0 with ⟨h1, h2⟩ | ⟨j, v, h1, h2⟩
  · simp [h1, h2, hz']
  · simp [h1, h2]
theorem lookup_ok (P : Program) (w : World) (g : G) (hp : Heap) (hs : Sat g hp w) (t : Nat) (ti : TI) (hti : ti.td ≠ .missing → TIok P t ti) (x y : Value) (X Y : AV) (hx : RepA g x X) (hy : RepA g y Y) :
    Out P w g (Instr.lookup t x y false) (evLookup ti hp X Y) := by
  unfold evLookup
  split
  · rename_i n s htd
    have hu := (hti (by rw [htd]; simp)).td
    rw [htd] at hu
    obtain ⟨k, e, h1, h2, i, h3, h4⟩ := hu
    obtain ⟨bs, rfl, hbs⟩ := rep_str hy
    cases hx with | mp _ b c l hb =>
    split
    · rename_i m hg
      have hent := hs.ent _ _ hg
      cases hent with | map _ b' c' l' es ck q1 q2 q3 =>
      rw [hb] at q1; injection q1 with q1; injection q1 with e1 e2 e3; injection e1 with e1
      subst e1
      refine ⟨.int .i64 (mLook m s), fun w' hup => ?_, r_int _ _ _⟩
      have hlt : b < w.heap.size := (Array.getElem?_eq_some_iff.1 q2).1
      have q2' := (hup b hlt).trans q2
      rw [lookup_run h1 h2 h3 h4 bs q2' q3, hbs]
    · trivial
  · trivial
theorem mapUp_ok (s : ByteArray) (v : Int) (cl : Nat) : ∀ (es : List MapEntry) (l : List (List UInt8 × Int)) (i : Nat), MapOK es l →
    (∃ j u, mFind l s.data.toList i = some (i + j, u) ∧ (es[j]?).map (·.key) = some (.string s) ∧ MapOK (es.modify j fun e => { e with key := .string s, val := .int .i64 v }) (mUp l s.data.toList v)) ∨
    (mFind l s.data.toList i = none ∧ MapOK (es ++ [⟨.string s, .int .i64 v, cl⟩]) (mUp l s.data.toList v))
  | [], [], _, _ => .inr ⟨rfl, ⟨s, rfl, rfl⟩, rfl, trivial⟩
  | [], _ :: _, _, h => h.elim
  | _ :: _, [], _, h => h.elim
  | e :: es, (k, u) :: l, i, h => by
    obtain ⟨⟨t, hk, hs⟩, hv, h⟩ := h
    subst hs
    unfold mFind mUp
    by_cases hx : s = t
    · subst hx
      simp only [if_true]
      exact .inl ⟨0, _, rfl, by simp [hk], ⟨s, rfl, rfl⟩, rfl, h⟩
    · have : ¬ s.data.toList = t.data.toList := fun h => hx (bytes_eq.1 h)
      simp only [if_neg this]
      rcases mapUp_ok s v cl es l (i + 1) h with ⟨j, z, h1, h2, h3⟩ | ⟨h1, h2⟩
      · exact .inl ⟨j + 1, z, by rw [h1, show i + 1 + j = i + (j + 1) by omega], by simpa using h2, by simpa using ⟨⟨t, hk, rfl⟩, hv, h3⟩⟩
      · exact .inr ⟨h1, ⟨t, hk, rfl⟩, hv, h2⟩
theorem stays_run {P : Program} (s : ByteArray) (w : World) : (Instr.keyThatStays (.string s) (.string s)).run P w = .ok (.string s) w := by
  unfold Instr.keyThatStays
  have : Instr.sameBits 10000 (.string s) (.string s) = true := by
    rw [show (10000 : Nat) = 9999 + 1 from rfl]
    simp [Instr.sameBits, beq_bytes]
  simp [this]
theorem mapUpdate_run {P : Program} {t k e : Nat} (ht : P.underlying t = some (.map k e)) (hk : P.underlying k = some .string) (s : ByteArray) (v : Int) {w : World} {b clock : Nat} {es : Array MapEntry} {l : List (List UInt8 × Int)} (hb : w.heap[b]? = some (.map es clock)) (h : MapOK es.toList l) :
    ∃ es' clock', (Instr.mapUpdate t (.map (some b)) (.string s) (.int .i64 v)).run P w = .ok () { w with heap := w.heap.setIfInBounds b (.map es' clock') } ∧ MapOK es'.toList (mUp l s.data.toList v) := by
  have hset : ∀ o : Obj, (setObj b o).run P w = .ok () { w with heap := w.heap.setIfInBounds b o } := fun o => by simp [setObj, Sem.run, hb]
  have hc := checkKey_run hk false 9999 s w
  rcases mapUp_ok s v clock es.toList l 0 h with ⟨j, z, h1, h2, h3⟩ | ⟨h1, h2⟩
  · refine ⟨es.modify j fun e => { e with key := .string s, val := .int .i64 v }, clock, ?_, by simpa using h3⟩
    unfold Instr.mapUpdate
    simp only [Sem.run_bind, run_underlying ht, Result.andThen_ok, getObj_run hb, Sem.run_pure]
    rw [show (10000 : Nat) = 9999 + 1 from rfl, hc]
    have h2' : ((es[j]?).map (·.key)).getD (.string s) = .string s := by
      have : es.toList[j]? = es[j]? := by simp
      rw [← this, h2]; rfl
    simp only [Result.andThen_ok, findKey_run hk s h w, h1, Nat.zero_add, Sem.run_bind, h2', stays_run, hset]
  · refine ⟨es.push ⟨.string s, .int .i64 v, clock⟩, clock + 1, ?_, by simpa using h2⟩
    unfold Instr.mapUpdate
    simp only [Sem.run_bind, run_underlying ht, Result.andThen_ok, getObj_run hb, Sem.run_pure]
    rw [show (10000 : Nat) = 9999 + 1 from rfl, hc]
    simp only [Result.andThen_ok, findKey_run hk s h w, h1, hset]
theorem indexA_ok (P : Program) (T : TT) (hT : TIok1 P T) (w : World) (g : G) (t : Nat) (x y : Value) (X Y : AV) (hx : RepA g x X) (hy : RepA g y Y) :
    Out P w g (Instr.index t x y) (evIndexA T t X Y) := by
  unfold evIndexA
  split
  · rename_i k e esz cells ik n htd
    have hu := (hT.ok t (by rw [htd]; simp)).td
    rw [htd] at hu
    obtain ⟨hu, i, hi, hisz⟩ := hu
    have ey := rep_int hy
    subst ey
    split
    · trivial
    rename_i hmiss
    have hte := hT.ok e (fun h => hmiss h)
    split
    · rename_i hc
      simp only [Bool.and_eq_true] at hc
      obtain ⟨hagg, hlen, hsz⟩ := hc
      have hlen := Nat.eq_of_beq_eq_true hlen
      rintro ⟨⟨h0, h1⟩, hsh⟩
      have hr := rep_imm hx
      cases hr with | agg cs _ hl hcs =>
      obtain ⟨d, hd, hda⟩ := hte.agg
      have hisagg : ∀ w, (isAgg e).run P w = .ok true w := by
        intro w
        rw [← hagg, ← hda]
        cases d <;> simp [isAgg, run_underlying hd]
      have hn : n.toNat < k := by omega
      have hle : n.toNat * esz + esz ≤ cells.length := by
        rw [hlen, ← Nat.succ_mul]
        exact Nat.mul_le_mul_right _ hn
      refine ⟨.agg (cs.extract (n.toNat * esz) (n.toNat * esz + esz)), fun w _ => ?_, ?_⟩
      · unfold Instr.index
        have : (0 ≤ n ∧ n < (k : Int)) := ⟨h0, h1⟩
        simp [asIntOf, run_underlying hu, this, sizeOf_run' hi, hisz, part, hisagg]
      · rw [shOK_reshape hsh]
        have hlen2 : ((cells.drop (n.toNat * esz)).take esz).length = esz := by
          rw [List.length_take, List.length_drop]; omega
        refine .imm _ _ (.agg _ _ (by rw [anyL_length, hlen2]; simp; omega) fun j hj => ?_)
        rw [anyL_length, hlen2] at hj
        rw [anyL_getD, getD_take _ _ _ _ hj, getD_drop]
        have e1 : (cs.extract (n.toNat * esz) (n.toNat * esz + esz)).getD j undef = cs.getD (n.toNat * esz + j) undef := by
          have h1 : j < (cs.extract (n.toNat * esz) (n.toNat * esz + esz)).size := by simp; omega
          have h2 : n.toNat * esz + j < cs.size := by omega
          simp [Array.getD_eq_getD_getElem?, Array.getElem?_extract, h2]
          rw [if_pos (by omega)]
          simp
        rw [e1]
        exact (hcs _ (by omega)).anyC
    · trivial
  · exact index_ok P w g t _ (hT.ok t) _ _ _ _ hx hy
end Go.Proofs.Sim
