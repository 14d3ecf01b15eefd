/-
  THE MATHEMATICS OF CHAPTER 1 (lex): what a text's error, its gaps, tokens and quoted texts are, as plain Lean functions on lists of bytes. No program is in sight here.
-/
namespace Lode
def isB (c : UInt8) : Bool := (decide (32 ≤ c.toNat) && decide (c.toNat ≤ 126)) || c.toNat == 10
def small (c : UInt8) : Bool := decide (97 ≤ c.toNat) && decide (c.toNat ≤ 122)
def big (c : UInt8) : Bool := decide (65 ≤ c.toNat) && decide (c.toNat ≤ 90)
def digit (c : UInt8) : Bool := decide (48 ≤ c.toNat) && decide (c.toNat ≤ 57)
def findIx (p : UInt8 → Bool) : List UInt8 → Option Nat
  | [] => none
  | c :: r => if p c then some 0 else (findIx p r).map (· + 1)
def ixOf : Option Nat → Int
  | none => -1
  | some k => k
/-- the error of a text, and its place -/
def check (s : List UInt8) : Nat × Nat :=
  if 3000 < s.length then (3000, 5) else
  match findIx (fun c => !isB c) s with
  | some i => (i, 4)
  | none => (0, 0)
def runLen (p : UInt8 → Bool) : List UInt8 → Nat
  | [] => 0
  | c :: r => if p c then runLen p r + 1 else 0
def gapLen : Bool → List UInt8 → Nat
  | _, [] => 0
  | cm, c :: r => if c = 10 then gapLen false r + 1 else if c = 35 then gapLen true r + 1 else if c = 32 ∨ cm = true then gapLen cm r + 1 else 0
/-- behind an opening quote: what stands for what, and how many bytes, the closing quote with them -/
def quo : List UInt8 → Option (List UInt8 × Nat)
  | [] => none
  | c :: r =>
    if c.toNat < 32 ∨ 126 < c.toNat then none
    else if c = 34 then some ([], 1)
    else if c = 92 then
      match r with
      | [] => none
      | d :: r' => if d = 34 ∨ d = 92 then (quo r').map fun x => (d :: x.1, x.2 + 2) else if d = 110 then (quo r').map fun x => (10 :: x.1, x.2 + 2) else none
    else (quo r).map fun x => (c :: x.1, x.2 + 1)
/-- a quoted text at the beginning: its text, its bytes -/
def quoted (s : List UInt8) : Option (List UInt8 × Nat) :=
  match quo (s.drop 1) with
  | some (t, n) => if t.length ≤ 60 then some (t, n + 1) else none
  | none => none
def bytesOf (s : String) : List UInt8 := s.toUTF8.data.toList
def wordList : List (List UInt8) := [[97, 110, 100], [97, 115], [98, 111, 111, 108], [98, 121, 116, 101], [99, 97, 116, 99, 104], [99, 104, 97, 110], [99, 108, 97, 115, 115], [99, 111, 108, 108, 101, 99, 116], [99, 117, 116], [101, 108, 115, 101], [101, 120, 116, 101, 114, 110], [102, 97, 108, 115, 101], [102, 110], [102, 117, 110], [104, 111, 108, 100], [105, 102], [105, 110], [105, 110, 116], [105, 115], [107, 105, 110, 100], [108, 101, 116], [109, 97, 116, 99, 104], [110, 101, 119], [110, 111, 116], [111, 114], [111, 117, 116], [112, 117, 114, 101], [114, 101, 97, 100], [114, 101, 99, 118], [114, 111, 111, 116], [115, 101, 108, 101, 99, 116], [115, 101, 110, 100], [115, 104, 111, 119], [115, 105, 122, 101], [115, 112, 97, 119, 110], [116, 101, 120, 116], [116, 104, 114, 111, 119], [116, 114, 117, 101], [116, 114, 121], [117, 110, 105, 116], [118, 97, 114], [119, 101, 97, 107], [119, 104, 105, 108, 101], [121, 105, 101, 108, 100]]
def signList : List (List UInt8) := [[58, 61], [61, 62], [61, 61], [33, 61], [60, 61], [62, 61], [43, 43], [43], [45], [42], [47], [37], [60], [62], [61], [40], [41], [91], [93], [123], [125], [44], [58], [59], [46]]
/-- the number that digits say -/
def numVal (l : List UInt8) : Nat := l.foldl (fun a c => 10 * a + (c.toNat - 48)) 0
def isNum (l : List UInt8) : Bool := !l.isEmpty && l.all digit && decide (numVal l ≤ 1000000000) && (decide (l.length = 1) || !(l.head? == some 48))
def isPre : List UInt8 → List UInt8 → Bool
  | [], _ => true
  | _ :: _, [] => false
  | a :: l, b :: m => decide (a = b) && isPre l m
/-- the token that begins a text: its kind, what it stands for, its bytes -/
def tok1 (s : List UInt8) : Option (Nat × List UInt8 × Nat) :=
  match s with
  | [] => none
  | c :: r =>
    if small c then
      let n := 1 + runLen (fun c => small c || digit c) r
      if n ≤ 12 then some (if wordList.contains (s.take n) then 5 else 1, s.take n, n) else none
    else if big c then
      let n := 1 + runLen (fun c => small c || digit c) r
      if n ≤ 12 then some (2, s.take n, n) else none
    else if digit c then
      let n := 1 + runLen digit r
      if isNum (s.take n) then some (3, s.take n, n) else none
    else if c = 34 then (quoted s).map fun x => (4, x.1, x.2)
    else (signList.find? fun g => isPre g s).map fun g => (6, g, g.length)
structure Tok where
  kind : Nat
  text : List UInt8
  at_ : Int
  deriving DecidableEq, Inhabited
/-- the tokens of the rest of a text that begins at a place, n tokens having been read: (tokens, place of the error, error) -/
def scan : Nat → Nat → Nat → List UInt8 → List Tok × Nat × Nat
  | 0, _, _, _ => ([], 0, 0)
  | fuel + 1, n, at_, r =>
    let g := gapLen false r
    match r.drop g with
    | [] => ([], 0, 0)
    | r1 =>
      match tok1 r1 with
      | none => ([], at_ + g, 4)
      | some (k, t, m) =>
        if n = 1200 then ([], at_ + g, 5) else
        let x := scan fuel (n + 1) (at_ + g + m) (r1.drop m)
        if x.2.2 = 0 then (⟨k, t, (at_ + g : Nat)⟩ :: x.1, 0, 0) else ([], x.2)
/-- the tokens of a text, or the place of the error, and it -/
def read (s : List UInt8) : List Tok × Nat × Nat :=
  if (check s).2 ≠ 0 then ([], check s) else scan (s.length + 1) 0 0 s
/-- lines and columns -/
def spot (s : List UInt8) (at_ : Nat) : Nat × Nat := (s.take at_).foldl (fun p c => if c = 10 then (p.1 + 1, 1) else (p.1, p.2 + 1)) (1, 1)
def quoteByte (c : UInt8) : List UInt8 := if c = 10 then [92, 110] else if c = 34 ∨ c = 92 then [92, c] else [c]
def quote (s : List UInt8) : List UInt8 × Nat :=
  if 60 < s.length then ([], 5) else if s.all isB then ([34] ++ s.flatMap quoteByte ++ [34], 0) else ([], 4)
def unquote (s : List UInt8) : List UInt8 × Nat :=
  if s.head? = some 34 then
    match quoted s with
    | some (t, n) => if n = s.length then (t, 0) else ([], 4)
    | none => ([], 4)
  else ([], 4)
end Lode
