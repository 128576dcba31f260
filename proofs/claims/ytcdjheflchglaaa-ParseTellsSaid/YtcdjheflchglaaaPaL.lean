import Derived.Test.YtcdjheflchglaaaWrL
import Derived.Test.YtcdjheflchglaaaDgL
namespace Go.Proofs.Sim.Pa
open Go Go.Proofs Go.Proofs.Sim Go.Proofs.Sim.Va Go.Proofs.Sim.Se

def kd (c : UInt8) : Int := kindB (c.toNat : Int)
def hexv (c : UInt8) : Int :=
  if 48 ≤ c.toNat ∧ c.toNat ≤ 57 then (c.toNat : Int) - 48
  else if 65 ≤ c.toNat ∧ c.toNat ≤ 70 then (c.toNat : Int) - 55
  else if 97 ≤ c.toNat ∧ c.toNat ≤ 102 then (c.toNat : Int) - 87 else -1
/-- How long the line's end is that a text begins with. -/
def eolL : List UInt8 → Nat
  | [] => 0
  | c :: r => if c.toNat = 10 then 1 else if c.toNat = 13 then (match r with | d :: _ => if d.toNat = 10 then 2 else 1 | [] => 1) else 0
theorem eol_cons (c : UInt8) (r : List UInt8) : eolL (c :: r) = if c.toNat = 10 then 1 else if c.toNat = 13 then (match r with | d :: _ => if d.toNat = 10 then 2 else 1 | [] => 1) else 0 := by cases r <;> rfl
def spanL (k : Int) : List UInt8 → Nat
  | [] => 0
  | c :: r => if kd c = k then spanL k r + 1 else 0
def noteL (note : Bool) (c : UInt8) : Bool := if c.toNat = 10 ∨ c.toNat = 13 then false else if c.toNat = 37 then true else note
/-- How many bytes stand ahead of a token. -/
def skipL : Bool → List UInt8 → Nat
  | _, [] => 0
  | note, c :: r => if noteL note c = false ∧ kd c ≠ 0 then 0 else skipL (noteL note c) r + 1

abbrev Part := List UInt8 × Nat × Int
def byB (n : Int) : UInt8 := UInt8.ofNat n.toNat
def nameL : List UInt8 → List UInt8 → Nat → Part
  | [], out, a => (out, a, 0)
  | c :: r, out, a => if kd c = 2 then
      (if c.toNat = 35 then (match r with
        | h :: l :: r' => if hexv h < 0 ∨ hexv l < 0 ∨ hexv h + hexv l = 0 then ([], 0, 4)
            else if 127 ≤ out.length then ([], 0, 8) else nameL r' (out ++ [byB (16 * hexv h + hexv l)]) (a + 3)
        | _ => ([], 0, 4))
      else if 127 ≤ out.length then ([], 0, 8) else nameL r (out ++ [c]) (a + 1))
    else (out, a, 0)
def isOct (c : UInt8) : Bool := decide (48 ≤ c.toNat) && decide (c.toNat ≤ 55)
def octL : Nat → List UInt8 → Nat → Nat × Nat
  | 0, _, acc => (acc, 0)
  | _ + 1, [], acc => (acc, 0)
  | k + 1, c :: r, acc => if isOct c then ((octL k r (8 * acc + (c.toNat - 48))).1, (octL k r (8 * acc + (c.toNat - 48))).2 + 1) else (acc, 0)
def letterL (c : UInt8) : UInt8 := if c.toNat = 110 then 10 else if c.toNat = 114 then 13 else if c.toNat = 116 then 9 else if c.toNat = 98 then 8 else if c.toNat = 102 then 12 else c
/-- What stands behind a backslash: the bytes that it means, and how many it takes. -/
def escL : List UInt8 → Option (List UInt8 × Nat)
  | [] => none
  | c :: r => if 0 < eolL (c :: r) then some ([], eolL (c :: r)) else if isOct c then some ([UInt8.ofNat (octL 3 (c :: r) 0).1], (octL 3 (c :: r) 0).2) else some ([letterL c], 1)
def textL : Nat → List UInt8 → List UInt8 → Int → Nat → Part
  | 0, _, _, _, _ => ([], 0, 5)
  | _ + 1, [], _, _, _ => ([], 0, 5)
  | m + 1, c :: r, out, d, a =>
    if 0 < eolL (c :: r) then textL m ((c :: r).drop (eolL (c :: r))) (out ++ [10]) d (a + eolL (c :: r))
    else if c.toNat = 92 then (match escL r with | none => ([], 0, 5) | some (t, k) => textL m (r.drop k) (out ++ t) d (a + 1 + k))
    else if c.toNat = 40 then textL m r (out ++ [c]) (d + 1) (a + 1)
    else if c.toNat = 41 then (if d = 1 then (out, a + 1, 0) else textL m r (out ++ [c]) (d - 1) (a + 1))
    else textL m r (out ++ [c]) d (a + 1)
/-- Digits to the base 16, behind half a byte, or none (-1). -/
def hexL : List UInt8 → Int → List UInt8 → Nat → Part
  | [], _, _, _ => ([], 0, 5)
  | c :: r, half, out, a =>
    if c.toNat = 62 then (if half < 0 then (out, a + 1, 0) else (out ++ [byB (16 * half)], a + 1, 0))
    else if hexv c < 0 then (if kd c = 0 then hexL r half out (a + 1) else ([], 0, 4))
    else if half < 0 then hexL r (hexv c) out (a + 1)
    else hexL r (-1) (out ++ [byB (16 * half + hexv c)]) (a + 1)
structure Tk where
  e : Int
  k : Int
  n : Int
  s : List UInt8
  a : Nat
  b : Nat
def badT (e : Int) : Tk := ⟨e, 0, 0, [], 0, 0⟩
def partT (k : Int) (p : Nat) (x : Part) : Tk := if x.2.2 = 0 then ⟨0, k, 0, x.1, p, x.2.1⟩ else badT x.2.2
def wordT (l : List UInt8) (p : Nat) : Tk :=
  if (looseS (l.take (spanL 2 l))).2 = 0 then ⟨0, 1, (looseS (l.take (spanL 2 l))).1, [], p, p + spanL 2 l⟩
  else if (looseS (l.take (spanL 2 l))).2 = 3 then badT 3
  else if 127 < spanL 2 l then badT 8 else ⟨0, 8, 0, l.take (spanL 2 l), p, p + spanL 2 l⟩
def tokL (c : UInt8) (r : List UInt8) (p : Nat) : Tk :=
  if c.toNat = 91 then ⟨0, 4, 0, [], p, p + 1⟩
  else if c.toNat = 93 then ⟨0, 5, 0, [], p, p + 1⟩
  else if c.toNat = 47 then partT 2 p (nameL r [] (p + 1))
  else if c.toNat = 40 then partT 3 p (textL (r.length + 1) r [] 1 (p + 1))
  else if c.toNat = 60 then (if r.head? = some 60 then ⟨0, 6, 0, [], p, p + 2⟩ else partT 3 p (hexL r (-1) [] (p + 1)))
  else if c.toNat = 62 then (if r.head? = some 62 then ⟨0, 7, 0, [], p, p + 2⟩ else badT 4)
  else if kd c = 1 then badT 4
  else wordT (c :: r) p
/-- A place in a text. -/
def plc (s : List UInt8) (a : Int) : Nat := if a < 0 then 0 else if (s.length : Int) < a then s.length else a.toNat
def skipP (s : List UInt8) (a : Int) : Nat := plc s a + skipL false (s.drop (plc s a))
def nextL (s : List UInt8) (a : Int) : Tk := match s.drop (skipP s a) with
  | [] => ⟨0, 0, 0, [], skipP s a, skipP s a⟩
  | c :: r => tokL c r (skipP s a)
def Tk.row (t : Tk) : List IV := [.int .i64 t.k, .int .i64 t.n, .str t.s, .int .i64 t.a, .int .i64 t.b]

def errV (e : Int) : V × Nat × Int := (.mk 0 0 0 [] [] [], 0, e)
def linkL (s : List UInt8) (a : Nat) : Option (Int × Nat) :=
  if (nextL s a).e = 0 ∧ (nextL s a).k = 1 then
    (if (nextL s (nextL s a).b).e = 0 ∧ (nextL s (nextL s a).b).k = 8 ∧ (nextL s (nextL s a).b).s = [82] then some ((nextL s a).n, (nextL s (nextL s a).b).b) else none)
  else none
def numL (s : List UInt8) (n : Int) (b : Nat) : V × Nat × Int := match linkL s b with
  | none => (.mk 2 n 0 [] [] [], b, 0)
  | some (g, c) => if n < 1 ∨ 8388607 < n ∨ g < 0 ∨ 65535 < g then errV 3 else (.mk 7 n g [] [] [], c, 0)
def wordV (w : List UInt8) (b : Nat) : V × Nat × Int :=
  if w = [116, 114, 117, 101] then (.mk 1 1 0 [] [] [], b, 0)
  else if w = [102, 97, 108, 115, 101] then (.mk 1 0 0 [] [] [], b, 0)
  else if w = [110, 117, 108, 108] then (.mk 0 0 0 [] [] [], b, 0) else errV 4
def listL (s : List UInt8) (rd : Nat → V × Nat × Int) : Nat → Nat → List V → V × Nat × Int
  | 0, _, _ => errV 5
  | m + 1, a, acc => if (nextL s a).e ≠ 0 then errV (nextL s a).e
    else if (nextL s a).k = 5 then (.mk 5 0 0 [] acc [], (nextL s a).b, 0)
    else if (rd a).2.2 ≠ 0 then errV (rd a).2.2 else listL s rd m (rd a).2.1 (acc ++ [(rd a).1])
def dictL (s : List UInt8) (rd : Nat → V × Nat × Int) : Nat → Nat → List Pr → V × Nat × Int
  | 0, _, _ => errV 5
  | m + 1, a, acc => if (nextL s a).e ≠ 0 then errV (nextL s a).e
    else if (nextL s a).k = 7 then (.mk 6 0 0 [] [] acc, (nextL s a).b, 0)
    else if (nextL s a).k = 0 then errV 5
    else if (nextL s a).k ≠ 2 then errV 4
    else if acc.any (fun p => p.1 == (nextL s a).s) then errV 11
    else if (rd (nextL s a).b).2.2 ≠ 0 then errV (rd (nextL s a).b).2.2 else dictL s rd m (rd (nextL s a).b).2.1 (acc ++ [((nextL s a).s, (rd (nextL s a).b).1)])
/-- The value that begins at a place, within so many, where it ends, or why there is none. -/
def readL (s : List UInt8) : Nat → Nat → Nat → V × Nat × Int
  | 0, _, _ => errV 5
  | m + 1, w, a => if (nextL s a).e ≠ 0 then errV (nextL s a).e
    else if (nextL s a).k = 0 then errV 5
    else if (nextL s a).k = 1 then numL s (nextL s a).n (nextL s a).b
    else if (nextL s a).k = 2 then (.mk 3 0 0 (nextL s a).s [] [], (nextL s a).b, 0)
    else if (nextL s a).k = 3 then (.mk 4 0 0 (nextL s a).s [] [], (nextL s a).b, 0)
    else if (nextL s a).k = 8 then wordV (nextL s a).s (nextL s a).b
    else if (nextL s a).k = 4 then (if 64 ≤ w then errV 9 else listL s (readL s m (w + 1)) (s.length + 1) (nextL s a).b [])
    else if (nextL s a).k = 6 then (if 64 ≤ w then errV 9 else dictL s (readL s m (w + 1)) (s.length + 1) (nextL s a).b [])
    else errV 4
end Go.Proofs.Sim.Pa
