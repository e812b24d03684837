/- What the program's package x86 computes, as plain functions on lists of bytes and on numbers (no program, no memory); conditions: none, these are definitions. -/
import Derived.Lib.IndexMore
import Derived.Lib.ItoaNum
import Derived.Lib.ParseIntB
import Derived.Lib.Strings
import Derived.IntWalk
import Derived.Laws.Entries
namespace Go.Proofs.YtfkfdffhajokkaaGreatDoor.X
open Go.RowKit
abbrev Str := List UInt8
/-! ### Reading -/
structure Opd where
  kind : Int
  reg : Int
  bytes : Int
  n : Int
  x : Int
  scale : Int
  name : Str
  deriving DecidableEq
def Opd.zero : Opd := ⟨0, 0, 0, 0, 0, 0, []⟩
structure Ln where
  word : Str
  ops : List Opd
  deriving DecidableEq
structure Cd where
  text : Str
  lines : List Ln
  labels : List (Str × Int)
  vars : List (Str × (Int × Int))
  data : List UInt8
  spans : List (Int × Int)
  deriving DecidableEq

def goodChar (first : Bool) (c : UInt8) : Bool :=
  c == 95 || c == 46 || (!first && (48 ≤ c && c ≤ 57)) || (97 ≤ c && c ≤ 122) || (65 ≤ c && c ≤ 90)
def goodChars : Bool → Str → Bool
  | _, [] => true
  | f, c :: r => goodChar f c && goodChars false r
def named (s : Str) : Bool := goodChars true s && !s.isEmpty && decide (s.length ≤ 60)

def number (s : Str) (bits : Nat) : Int × Bool :=
  match Lib.parseIntB bits s with
  | .ok v => (v, Lib.itoa v == s)
  | Lib.NumEnd.syntax => (0, false)
  | .range => (Lib.intSat bits s, false)

def names8 : List Str := [([114, 97, 120] : Str), ([114, 98, 120] : Str), ([114, 99, 120] : Str), ([114, 100, 120] : Str), ([114, 115, 105] : Str), ([114, 100, 105] : Str), ([114, 98, 112] : Str), ([114, 115, 112] : Str), ([114, 56] : Str), ([114, 57] : Str), ([114, 49, 48] : Str), ([114, 49, 49] : Str), ([114, 49, 50] : Str), ([114, 49, 51] : Str), ([114, 49, 52] : Str), ([114, 49, 53] : Str)]
def names4 : List Str := [([101, 97, 120] : Str), ([101, 98, 120] : Str), ([101, 99, 120] : Str), ([101, 100, 120] : Str), ([101, 115, 105] : Str), ([101, 100, 105] : Str), ([101, 98, 112] : Str), ([101, 115, 112] : Str), ([114, 56, 100] : Str), ([114, 57, 100] : Str), ([114, 49, 48, 100] : Str), ([114, 49, 49, 100] : Str), ([114, 49, 50, 100] : Str), ([114, 49, 51, 100] : Str), ([114, 49, 52, 100] : Str), ([114, 49, 53, 100] : Str)]
def names2 : List Str := [([97, 120] : Str), ([98, 120] : Str), ([99, 120] : Str), ([100, 120] : Str), ([115, 105] : Str), ([100, 105] : Str), ([98, 112] : Str), ([115, 112] : Str), ([114, 56, 119] : Str), ([114, 57, 119] : Str), ([114, 49, 48, 119] : Str), ([114, 49, 49, 119] : Str), ([114, 49, 50, 119] : Str), ([114, 49, 51, 119] : Str), ([114, 49, 52, 119] : Str), ([114, 49, 53, 119] : Str)]
def names1 : List Str := [([97, 108] : Str), ([98, 108] : Str), ([99, 108] : Str), ([100, 108] : Str), ([115, 105, 108] : Str), ([100, 105, 108] : Str), ([98, 112, 108] : Str), ([115, 112, 108] : Str), ([114, 56, 98] : Str), ([114, 57, 98] : Str), ([114, 49, 48, 98] : Str), ([114, 49, 49, 98] : Str), ([114, 49, 50, 98] : Str), ([114, 49, 51, 98] : Str), ([114, 49, 52, 98] : Str), ([114, 49, 53, 98] : Str)]
def names (bytes : Int) : List Str := if bytes = 8 then names8 else if bytes = 4 then names4 else if bytes = 2 then names2 else if bytes = 1 then names1 else []
def find (s : Str) : Nat → List Str → Int
  | _, [] => -1
  | k, n :: r => if s == 37 :: n then k else find s (k + 1) r
def register (s : Str) (bytes : Int) : Int := find s 0 (names bytes)
def wide (s : Str) : Opd × Bool := (⟨1, register s 8, 8, 0, 0, 0, []⟩, decide (0 ≤ register s 8))
def part (s : Str) (bytes : Int) : Opd × Bool := (⟨1, register s bytes, bytes, 0, 0, 0, []⟩, decide (0 ≤ register s bytes))
def immediate (s : Str) (bits : Nat) : Opd × Bool :=
  (⟨2, 0, 0, (number (Lib.trimPrefix s [36]) bits).1, 0, 0, []⟩, Lib.hasPrefix s [36] && (number (Lib.trimPrefix s [36]) bits).2)
def splitOn (c : UInt8) : Str → List Str
  | [] => [[]]
  | b :: r => if b = c then [] :: splitOn c r else
    match splitOn c r with
    | [] => [[b]]
    | x :: xs => (b :: x) :: xs
def memVar (head : Str) : Opd × Bool :=
  let c := Lib.cut head [43]
  let nf : Int × Bool := if c.2.2 then ((number c.2.1 32).1, (number c.2.1 32).2 && decide (0 < (number c.2.1 32).1)) else (0, true)
  (⟨3, -1, 0, nf.1, -1, 0, c.1⟩, nf.2 && named c.1)
def memReg (n : Int) (rest : Str) : Opd × Bool :=
  let l := splitOn 44 rest
  let r := register (l.headD []) 8
  if l.length = 3 then
    let x := register (l.getD 1 []) 8
    let s := number (l.getD 2 []) 32
    (⟨3, r, 0, n, x, s.1, []⟩, s.2 && decide (0 ≤ r) && decide (0 ≤ x) && decide (x ≠ 7) && (s.1 == 1 || s.1 == 2 || s.1 == 4 || s.1 == 8))
  else (⟨3, r, 0, n, -1, 0, []⟩, decide (l.length = 1) && decide (0 ≤ r))
def memory (s : Str) : Opd × Bool :=
  let c := Lib.cut s [40]
  if !c.2.2 || !Lib.hasSuffix c.2.1 [41] then (Opd.zero, false) else
  let rest := c.2.1.dropLast
  if rest == ([37, 114, 105, 112] : Str) then memVar c.1
  else if c.1.isEmpty then memReg 0 rest
  else if !(number c.1 32).2 || (number c.1 32).1 == 0 then (⟨3, 0, 0, 0, -1, 0, []⟩, false)
  else memReg (number c.1 32).1 rest
def takeOne (f : UInt8) (s : Str) : Opd × Bool :=
  if f = 73 then immediate s 32
  else if f = 74 then immediate s 64
  else if f = 83 then ((immediate s 32).1, (immediate s 32).2 && decide (0 ≤ (immediate s 32).1.n) && decide ((immediate s 32).1.n < 64))
  else if f = 82 then wide s
  else if f = 77 then memory s
  else if f = 98 then part s 1
  else if f = 119 then part s 2
  else if f = 108 then part s 4
  else if f = 66 then ((part s 1).1, (part s 1).2 && decide ((part s 1).1.reg = 2))
  else if f = 76 then (⟨4, 0, 0, 0, 0, 0, s⟩, named s)
  else if f = 80 then (⟨4, 0, 0, 0, 0, 0, Lib.trimSuffix s ([40, 37, 114, 105, 112, 41] : Str)⟩, Lib.hasSuffix s ([40, 37, 114, 105, 112, 41] : Str) && named (Lib.trimSuffix s ([40, 37, 114, 105, 112, 41] : Str)))
  else if f = 42 then ({ (wide (Lib.trimPrefix s [42])).1 with kind := 5 }, (wide (Lib.trimPrefix s [42])).2 && Lib.hasPrefix s [42])
  else (Opd.zero, false)
def take (s : Str) : Str → Opd × Bool
  | [] => (Opd.zero, false)
  | f :: r => if (takeOne f s).2 then ((takeOne f s).1, true) else take s r

def conds : List Str := [([101] : Str), ([110, 101] : Str), ([108] : Str), ([108, 101] : Str), ([103] : Str), ([103, 101] : Str), ([98] : Str), ([98, 101] : Str), ([97] : Str), ([97, 101] : Str)]
/-- the table of forms, in the order of the words' bytes -/
def formsTab : List (Str × List (List Str)) := [
  (([97, 100, 100, 113] : Str), [[([73, 82, 77] : Str), ([82] : Str)]]), (([97, 110, 100, 113] : Str), [[([73, 82, 77] : Str), ([82] : Str)]]), (([99, 97, 108, 108] : Str), [[([76] : Str)], [([42] : Str)]]), (([99, 109, 112, 113] : Str), [[([73, 82, 77] : Str), ([82] : Str)]]), (([99, 113, 116, 111] : Str), [[]]), (([100, 105, 118, 113] : Str), [[([82] : Str)]]), (([105, 100, 105, 118, 113] : Str), [[([82] : Str)]]), (([105, 109, 117, 108, 113] : Str), [[([73, 82, 77] : Str), ([82] : Str)]]), (([106, 109, 112] : Str), [[([76] : Str)], [([42] : Str)]]),
  (([108, 101, 97, 113] : Str), [[([77] : Str), ([82] : Str)], [([80] : Str), ([82] : Str)]]), (([109, 111, 118, 97, 98, 115, 113] : Str), [[([74] : Str), ([82] : Str)]]), (([109, 111, 118, 98] : Str), [[([98] : Str), ([77] : Str)]]), (([109, 111, 118, 108] : Str), [[([108] : Str), ([77] : Str)], [([77, 108] : Str), ([108] : Str)]]), (([109, 111, 118, 113] : Str), [[([73, 82, 77] : Str), ([82] : Str)], [([73, 82] : Str), ([77] : Str)]]), (([109, 111, 118, 115, 98, 113] : Str), [[([77, 98] : Str), ([82] : Str)]]), (([109, 111, 118, 115, 108, 113] : Str), [[([77, 108] : Str), ([82] : Str)]]),
  (([109, 111, 118, 115, 119, 113] : Str), [[([77, 119] : Str), ([82] : Str)]]), (([109, 111, 118, 119] : Str), [[([119] : Str), ([77] : Str)]]), (([109, 111, 118, 122, 98, 113] : Str), [[([77, 98] : Str), ([82] : Str)]]), (([109, 111, 118, 122, 119, 113] : Str), [[([77, 119] : Str), ([82] : Str)]]), (([110, 101, 103, 113] : Str), [[([82] : Str)]]), (([110, 111, 116, 113] : Str), [[([82] : Str)]]), (([111, 114, 113] : Str), [[([73, 82, 77] : Str), ([82] : Str)]]), (([112, 111, 112, 113] : Str), [[([82] : Str)]]), (([112, 117, 115, 104, 113] : Str), [[([82] : Str)]]), (([114, 101, 116] : Str), [[]]),
  (([115, 97, 114, 113] : Str), [[([83, 66] : Str), ([82] : Str)]]), (([115, 104, 108, 113] : Str), [[([83, 66] : Str), ([82] : Str)]]), (([115, 104, 114, 113] : Str), [[([83, 66] : Str), ([82] : Str)]]), (([115, 117, 98, 113] : Str), [[([73, 82, 77] : Str), ([82] : Str)]]), (([115, 121, 115, 101, 120, 105, 116] : Str), [[]]), (([115, 121, 115, 105, 110] : Str), [[]]), (([115, 121, 115, 111, 117, 116] : Str), [[]]), (([115, 121, 115, 111, 118, 101, 114] : Str), [[]]), (([116, 101, 115, 116, 113] : Str), [[([82] : Str), ([82] : Str)]]), (([120, 111, 114, 113] : Str), [[([73, 82, 77] : Str), ([82] : Str)]])]
def ways (word : Str) : List (List Str) :=
  match formsTab.lookup word with
  | some w => w
  | none =>
    if Lib.hasPrefix word ([115, 101, 116] : Str) && conds.contains (Lib.trimPrefix word ([115, 101, 116] : Str)) then [[([98] : Str)]]
    else if Lib.hasPrefix word ([106] : Str) && conds.contains (Lib.trimPrefix word ([106] : Str)) then [[([76] : Str)]]
    else []
/-- parts at ", " -/
def splitArgs : Nat → Str → List Str
  | 0, _ => []
  | k + 1, s =>
    if s.isEmpty then [] else
    if Lib.index s [44, 32] < 0 then [s] else
    let n := (Lib.index s [44, 32]).toNat
    s.take n :: (if (s.drop (n + 2)).isEmpty then [[]] else splitArgs k (s.drop (n + 2)))
def split (s : Str) : List Str := splitArgs (s.length + 1) s
def knows (labels : List (Str × Int)) (vars : List (Str × (Int × Int))) (o : Opd) : Bool :=
  if o.kind = 4 then (labels.lookup o.name).isSome
  else if o.kind = 3 && !o.name.isEmpty then (vars.lookup o.name).isSome
  else true
/-- one way of an instruction's operands -/
def tryWay (labels : List (Str × Int)) (vars : List (Str × (Int × Int))) : List Str → List Str → List Opd × Bool
  | f :: way, a :: args =>
    let r := tryWay labels vars way args
    ((take a f).1 :: r.1, (take a f).2 && knows labels vars (take a f).1 && r.2)
  | _, _ => ([], true)
def tryWays (labels : List (Str × Int)) (vars : List (Str × (Int × Int))) (word : Str) (args : List Str) : List (List Str) → Ln × Bool
  | [] => (⟨[], []⟩, false)
  | way :: rest =>
    if way.length ≠ args.length then tryWays labels vars word args rest
    else if (tryWay labels vars way args).2 then (⟨word, (tryWay labels vars way args).1⟩, true)
    else tryWays labels vars word args rest
def instruction (labels : List (Str × Int)) (vars : List (Str × (Int × Int))) (s : Str) : Ln × Bool :=
  let c := Lib.cut s [9]
  if c.2.2 && c.2.1.isEmpty then (⟨[], []⟩, false)
  else tryWays labels vars c.1 (split c.2.1) (ways c.1)

/-- what a line of data tells: how many bytes of which number, where (in the data); none: it is none -/
def dataSize (l : List Str) : Bool :=
  decide (l.length = 3) && (number (l.getD 2 []) 32).2 && named (l.getD 1 []) && decide (1 ≤ (number (l.getD 2 []) 32).1) && decide ((number (l.getD 2 []) 32).1 ≤ 65536)
def cellOf (labels : List (Str × Int)) (l : List Str) : Nat × Int × Bool :=
  if l.headD [] = ([46, 113, 117, 97, 100] : Str) then (8, (number (l.getD 3 []) 64).1, (number (l.getD 3 []) 64).2)
  else if l.headD [] = ([46, 98, 121, 116, 101] : Str) then (1, (number (l.getD 3 []) 32).1, (number (l.getD 3 []) 32).2 && decide (0 ≤ (number (l.getD 3 []) 32).1) && decide ((number (l.getD 3 []) 32).1 ≤ 255))
  else if l.headD [] = ([46, 97, 100, 100, 114] : Str) then (8, 268435456 + (labels.lookup (l.getD 3 [])).getD 0, (labels.lookup (l.getD 3 [])).isSome)
  else (8, 0, false)
def byteOf (n : Int) (k : Nat) : UInt8 := UInt8.ofNat ((n % 18446744073709551616).toNat / 2 ^ (8 * k) % 256)
def putBytes (n : Int) : Nat → Nat → List UInt8 → List UInt8
  | 0, _, d => d
  | k + 1, at_, d => (putBytes n k at_ d).set (at_ + k) (byteOf n k)
def datum (labels : List (Str × Int)) (vars : List (Str × (Int × Int))) (data : List UInt8) (lay : Bool) (s : Str) : List UInt8 × Bool :=
  let l := splitOn 32 s
  if l.headD [] = ([46, 100, 97, 116, 97] : Str) then (data, dataSize l)
  else if l.length ≠ 4 then (data, false) else
  let v := vars.lookup (l.getD 1 [])
  let a := number (l.getD 2 []) 32
  let m := cellOf labels l
  if !a.2 || !m.2.2 || !v.isSome || decide (a.1 < 0) || decide (a.1 > (v.getD (0, 0)).1 - m.1) then (data, false)
  else (if lay then putBytes m.2.1 m.1 ((v.getD (0, 0)).2 - 65536 + a.1).toNat data else data, true)
def isLabel (s : Str) : Str × Bool := (Lib.trimSuffix s [58], Lib.hasSuffix s [58] && named (Lib.trimSuffix s [58]))

/-- what is gathered: how many instructions yet, where a name is twice, where the data end, labels, variables, spans -/
structure Gt where
  k : Int
  twice : Int
  at_ : Int
  labels : List (Str × Int)
  vars : List (Str × (Int × Int))
  spans : List (Int × Int)
def gatherName (g : Gt) (i : Nat) (name : Str) (size : Int) : Gt :=
  if (g.labels.lookup name).isSome || (g.vars.lookup name).isSome then (if g.twice < 0 then { g with twice := i } else g)
  else if size < 0 then { g with labels := g.labels ++ [(name, g.k)] }
  else { g with vars := g.vars ++ [(name, (size, g.at_))], spans := g.spans ++ [(size, g.at_)], at_ := g.at_ + (size + 15) / 16 * 16 }
def gatherLine (g : Gt) (i : Nat) (s : Str) : Gt :=
  if Lib.hasPrefix s [9] then { g with k := g.k + 1 }
  else if (isLabel s).2 then gatherName g i (isLabel s).1 (-1)
  else if (datum g.labels g.vars [] false s).2 && Lib.hasPrefix s ([46, 100, 97, 116, 97, 32] : Str) then
    gatherName g i ((splitOn 32 s).getD 1 []) (number ((splitOn 32 s).getD 2 []) 32).1
  else g
def gather : Nat → List Str → Gt → Gt
  | _, [], g => g
  | i, s :: r, g => gather (i + 1) r (gatherLine g i s)
def gather0 : Gt := ⟨0, -1, 65536, [], [], []⟩
/-- the second look at the lines: the code's lines, the data; or where a line is none -/
structure Rd where
  lines : List Ln
  data : List UInt8
  at_ : Int
  bad : Bool
def readLine (g : Gt) (i : Nat) (r : Rd) (x : Str) : Rd :=
  if Lib.hasPrefix x [9] then
    let l := instruction g.labels g.vars (Lib.trimPrefix x [9])
    if !l.2 || decide ((i : Int) = g.twice) then { r with bad := true } else { r with lines := r.lines ++ [l.1], at_ := r.at_ + (x.length + 1) }
  else if (isLabel x).2 then
    if decide ((i : Int) = g.twice) then { r with bad := true } else { r with at_ := r.at_ + (x.length + 1) }
  else
    let d := datum g.labels g.vars r.data true x
    if !d.2 || decide ((i : Int) = g.twice) then { r with bad := true } else { r with data := d.1, at_ := r.at_ + (x.length + 1) }
def readLines (g : Gt) : Nat → List Str → Rd → Rd
  | _, [], r => r
  | i, x :: xs, r => if (readLine g i r x).bad then readLine g i r x else readLines g (i + 1) xs (readLine g i r x)
/-- Read: the code, or what is wrong and where -/
def read (s : Str) : Except (Int × Int) Cd :=
  let l := splitOn 10 s
  let ls := l.dropLast
  let g := gather 0 ls gather0
  let r := readLines g 0 ls ⟨[], List.replicate (g.at_ - 65536).toNat 0, 0, false⟩
  if r.bad then .error (12, r.at_)
  else if (l.getLastD []) ≠ [] then .error (12, r.at_)
  else if (g.labels.lookup ([109, 97, 105, 110] : Str)).isNone then .error (11, s.length)
  else .ok ⟨s, r.lines, g.labels, g.vars, r.data, g.spans⟩
end Go.Proofs.YtfkfdffhajokkaaGreatDoor.X
/- What the program's machine of package x86 does, as plain functions (no program, no memory); conditions: none, these are definitions. -/
namespace Go.Proofs.YtfkfdffhajokkaaGreatDoor.X
open Go.RowKit
structure Mach where
  regs : Nat → Int
  at_ : Int
  data : Nat → UInt8
  stack : Nat → UInt8
  sN : Nat
  x : Int
  y : Int
  compared : Bool
  input : List UInt8
  kind : Int
  code : Int
  out : List UInt8
  least : Int
def upd (f : Nat → Int) (r : Nat) (v : Int) : Nat → Int := fun j => if j = r then v else f j
def u64 (n : Int) : Int := IntKind.u64.wrap n
def halt (m : Mach) (kind code : Int) : Mach :=
  if m.kind ≠ 0 then m else { m with kind := kind, code := if kind = 1 then Go.bits .and .i64 code 255 else m.code }
inductive Loc where
  | stack (off : Nat)
  | data (off : Nat)
def inSpan (a n : Int) (v : Int × Int) : Bool := decide (v.2 ≤ a) && decide (a ≤ v.2 + v.1 - n)
def locate (c : Cd) (m : Mach) (a n : Int) : Option Loc :=
  if 16777216 - (m.sN : Int) ≤ a ∧ a ≤ 16777216 - n then some (.stack (a - (16777216 - (m.sN : Int))).toNat)
  else if c.spans.any (inSpan a n) then some (.data (a - 65536).toNat) else none
def getN (f : Nat → UInt8) (off : Nat) : Nat → List UInt8
  | 0 => []
  | k + 1 => f off :: getN f (off + 1) k
def val : List UInt8 → Nat
  | [] => 0
  | b :: r => b.toNat + 256 * val r
def putN (f : Nat → UInt8) (off n : Nat) (v : Int) : Nat → UInt8 := fun i => if off ≤ i ∧ i < off + n then byteOf v (i - off) else f i
/-- the number of a width (bits; with a sign) that a number's lowest bits are -/
def wrapW (b : Int) (s : Bool) (n : Int) : Int :=
  if s then wrap64 (n * 2 ^ (64 - b).toNat) / 2 ^ (64 - b).toNat else wrap64 (u64 (u64 n * 2 ^ (64 - b).toNat) / 2 ^ (64 - b).toNat)
def load (c : Cd) (m : Mach) (a : Int) (b : Int) (s : Bool) : Mach × Int :=
  match locate c m a (b / 8) with
  | some (.stack o) => (m, wrapW b s (wrap64 (val (getN m.stack o (b / 8).toNat))))
  | some (.data o) => (m, wrapW b s (wrap64 (val (getN m.data o (b / 8).toNat))))
  | none => (halt m 5 0, wrapW b s (wrap64 0))
def store (c : Cd) (m : Mach) (a n : Int) (k : Nat) : Mach :=
  match locate c m a k with
  | some (.stack o) => { m with stack := putN m.stack o k n }
  | some (.data o) => { m with data := putN m.data o k n }
  | none => halt m 5 0
def address (c : Cd) (m : Mach) (o : Opd) : Int :=
  if o.name ≠ [] then wrap64 (((c.vars.lookup o.name).getD (0, 0)).2 + o.n)
  else if 0 ≤ o.x then wrap64 (wrap64 (m.regs o.reg.toNat + o.n) + wrap64 (m.regs o.x.toNat * o.scale))
  else wrap64 (m.regs o.reg.toNat + o.n)
def value (c : Cd) (m : Mach) (o : Opd) (b : Int) (s : Bool) : Mach × Int :=
  if o.kind = 2 then (m, o.n)
  else if o.kind = 3 then load c m (address c m o) b s
  else (m, wrapW b s (m.regs o.reg.toNat))
def setReg (m : Mach) (r : Nat) (v : Int) : Mach := { m with regs := upd m.regs r v }
def move (c : Cd) (m : Mach) (o : Opd) (n : Int) (k : Nat) : Mach :=
  if m.kind ≠ 0 then m
  else if o.kind = 3 then store c m (address c m o) n k
  else setReg m o.reg.toNat n
def push (c : Cd) (m : Mach) (n : Int) : Mach := store c (setReg m 7 (wrap64 (m.regs 7 - 8))) (wrap64 (m.regs 7 - 8)) n 8
def pop (c : Cd) (m : Mach) : Mach × Int :=
  let l := load c m (m.regs 7) 64 true
  (setReg l.1 7 (wrap64 (l.1.regs 7 + 8)), l.2)
def leap (c : Cd) (m : Mach) (to : Int) : Mach :=
  if wrap64 (to - 268435456) < 0 ∨ (c.lines.length : Int) ≤ wrap64 (to - 268435456) then halt m 5 0 else { m with at_ := wrap64 (to - 268435456) }
def target (c : Cd) (m : Mach) (o : Opd) : Int :=
  if o.kind = 5 then m.regs o.reg.toNat else 268435456 + (c.labels.lookup o.name).getD 0
def cond (c : Str) (x y : Int) : Bool :=
  if c = ([101] : Str) then x == y else if c = ([110, 101] : Str) then x != y else if c = ([108] : Str) then decide (x < y) else if c = ([108, 101] : Str) then decide (x ≤ y)
  else if c = ([103] : Str) then decide (y < x) else if c = ([103, 101] : Str) then decide (y ≤ x) else if c = ([98] : Str) then decide (u64 x < u64 y) else if c = ([98, 101] : Str) then decide (u64 x ≤ u64 y)
  else if c = ([97] : Str) then decide (u64 y < u64 x) else decide (u64 y ≤ u64 x)
def holds (m : Mach) (c : Str) : Mach × Bool := if m.compared then (m, cond c m.x m.y) else (halt m 5 0, false)
def divide (m : Mach) (signed : Bool) (d : Int) : Mach :=
  let a := m.regs 0
  if signed then
    if d = 0 ∨ (d = -1 ∧ a = -9223372036854775808) ∨ m.regs 3 ≠ a / 2 ^ 63 then halt m 5 0 else setReg (setReg m 0 (a.tdiv d)) 3 (a.tmod d)
  else
    if d = 0 ∨ m.regs 3 ≠ 0 then halt m 5 0 else setReg (setReg m 0 (wrap64 (u64 a / u64 d))) 3 (wrap64 (u64 a % u64 d))
/-- what Plain of package word answers at the sums' operations -/
def plain (sub a b : Int) : Int :=
  if sub = 1 then wrap64 (a + b) else if sub = 2 then wrap64 (a - b) else if sub = 3 then wrap64 (a * b)
  else if sub = 8 then Go.bits .and .i64 a b else if sub = 9 then Go.bits .or .i64 a b else if sub = 10 then Go.bits .xor .i64 a b
  else if sub = 11 then wrap64 (a * 2 ^ (b % 64).toNat) else if sub = 12 then wrap64 (u64 a / 2 ^ (b % 64).toNat) else a / 2 ^ (b % 64).toNat
def extTab : List (Str × (Int × Bool)) := [(([109, 111, 118, 115, 98, 113] : Str), (8, true)), (([109, 111, 118, 115, 119, 113] : Str), (16, true)), (([109, 111, 118, 115, 108, 113] : Str), (32, true)), (([109, 111, 118, 122, 98, 113] : Str), (8, false)), (([109, 111, 118, 122, 119, 113] : Str), (16, false))]
def partTab : List (Str × Int) := [(([109, 111, 118, 98] : Str), 1), (([109, 111, 118, 119] : Str), 2), (([109, 111, 118, 108] : Str), 4)]
def sumTab : List (Str × Int) := [(([97, 100, 100, 113] : Str), 1), (([115, 117, 98, 113] : Str), 2), (([105, 109, 117, 108, 113] : Str), 3), (([97, 110, 100, 113] : Str), 8), (([111, 114, 113] : Str), 9), (([120, 111, 114, 113] : Str), 10), (([115, 104, 108, 113] : Str), 11), (([115, 97, 114, 113] : Str), 13), (([115, 104, 114, 113] : Str), 12)]
def two (c : Cd) (m : Mach) (word : Str) (fr to : Opd) : Mach :=
  match extTab.lookup word with
  | some w => move c (value c m fr w.1 w.2).1 to (value c m fr w.1 w.2).2 8
  | none =>
  match partTab.lookup word with
  | some n => move c (value c m fr (8 * n) false).1 to (value c m fr (8 * n) false).2 n.toNat
  | none =>
  match sumTab.lookup word with
  | some sub => move c (value c m fr 64 true).1 to (plain sub (m.regs to.reg.toNat) (value c m fr 64 true).2) 8
  | none =>
  if word = ([108, 101, 97, 113] : Str) then (if fr.kind = 4 then move c m to (target c m fr) 8 else move c m to (address c m fr) 8)
  else if word = ([99, 109, 112, 113] : Str) then { (value c m fr 64 true).1 with x := m.regs to.reg.toNat, y := (value c m fr 64 true).2, compared := true }
  else if word = ([116, 101, 115, 116, 113] : Str) then { m with x := Go.bits .and .i64 (m.regs to.reg.toNat) (m.regs fr.reg.toNat), y := 0, compared := true }
  else move c (value c m fr 64 true).1 to (value c m fr 64 true).2 8
def one (c : Cd) (m : Mach) (word : Str) (o : Opd) : Mach :=
  if word = ([110, 101, 103, 113] : Str) then setReg m o.reg.toNat (wrap64 (-(m.regs o.reg.toNat)))
  else if word = ([110, 111, 116, 113] : Str) then setReg m o.reg.toNat (-1 - m.regs o.reg.toNat)
  else if word = ([105, 100, 105, 118, 113] : Str) ∨ word = ([100, 105, 118, 113] : Str) then divide m (word == ([105, 100, 105, 118, 113] : Str)) (m.regs o.reg.toNat)
  else if word = ([106, 109, 112] : Str) then leap c m (target c m o)
  else if word = ([99, 97, 108, 108] : Str) then leap c (push c m (268435456 + m.at_)) (target c m o)
  else if word = ([112, 117, 115, 104, 113] : Str) then push c m (m.regs o.reg.toNat)
  else if word = ([112, 111, 112, 113] : Str) then move c (pop c m).1 o (pop c m).2 8
  else if Lib.hasPrefix word ([115, 101, 116] : Str) then
    let h := holds m (Lib.trimPrefix word ([115, 101, 116] : Str))
    move c h.1 o (Go.bits .or .i64 (Go.bits .andNot .i64 (h.1.regs o.reg.toNat) 255) (if h.2 then 1 else 0)) 1
  else
    let h := holds m (word.drop 1)
    if h.2 then leap c h.1 (target c h.1 o) else h.1
def none' (c : Cd) (m : Mach) (word : Str) : Mach :=
  if word = ([114, 101, 116] : Str) then
    let p := pop c m
    if p.2 = 0 ∧ p.1.kind = 0 then halt p.1 1 (p.1.regs 0) else leap c p.1 p.2
  else if word = ([99, 113, 116, 111] : Str) then setReg m 3 (m.regs 0 / 2 ^ 63)
  else if word = ([115, 121, 115, 105, 110] : Str) then
    match m.input with
    | [] => setReg m 0 (-1)
    | b :: r => { setReg m 0 (b.toNat : Int) with input := r }
  else if word = ([115, 121, 115, 111, 117, 116] : Str) then { m with out := m.out ++ [byteOf (m.regs 5) 0] }
  else if word = ([115, 121, 115, 101, 120, 105, 116] : Str) then halt m 1 (m.regs 5)
  else if word = ([115, 121, 115, 111, 118, 101, 114] : Str) then halt m 4 0
  else m
def step (c : Cd) (m : Mach) : Mach :=
  if (c.lines.length : Int) ≤ m.at_ then halt m 5 0 else
  let l := c.lines.getD m.at_.toNat ⟨[], []⟩
  let m1 := { m with at_ := m.at_ + 1 }
  match l.ops with
  | [a, b] => two c m1 l.word a b
  | [a] => one c m1 l.word a
  | _ => none' c m1 l.word
def lower (m : Mach) : Mach := { m with least := min m.least (m.regs 7) }
def runN (c : Cd) : Nat → Mach → Mach
  | 0, m => if m.kind ≠ 0 then lower m else lower (halt (lower m) 3 0)
  | k + 1, m => if m.kind ≠ 0 then lower m else runN c k (step c (lower m))
def may (inputN : Nat) (fuel stack : Int) : Bool :=
  decide (0 ≤ fuel) && decide (fuel ≤ 16777216) && decide (inputN ≤ 4096) && decide (stack.tmod 16 = 0) && decide (16 ≤ stack) && decide (stack ≤ 1048576)
def begin (c : Cd) (input : List UInt8) (sN : Nat) : Mach :=
  push c { regs := fun r => if r = 7 then 16777216 else if r = 15 then 16777216 - sN else 0, at_ := (c.labels.lookup ([109, 97, 105, 110] : Str)).getD 0, data := fun i => c.data.getD i 0, stack := fun _ => 0, sN := sN, x := 0, y := 0, compared := false, input := input, kind := 0, code := 0, out := [], least := 9223372036854775807 } 0
def run (c : Cd) (input : List UInt8) (fuel : Nat) (sN : Nat) : Mach := runN c fuel (begin c input sN)
end Go.Proofs.YtfkfdffhajokkaaGreatDoor.X
