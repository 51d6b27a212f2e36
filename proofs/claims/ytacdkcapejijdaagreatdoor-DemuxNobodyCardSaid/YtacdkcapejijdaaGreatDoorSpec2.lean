/- Plain functions that say what the packages uri, head, parse, reply and demux of the program answer (no program here). -/
import Derived.Test.YtacdkcapejijdaaGreatDoorSpec1
import Derived.Lib.ItoaNum
import Derived.Lib.Atoi
namespace Clo

/-! ### uri -/
def hexDigits : Str := [48, 49, 50, 51, 52, 53, 54, 55, 56, 57, 97, 98, 99, 100, 101, 102]
def unhexArg (c : UInt8) : UInt8 := c ||| (32 : UInt8) * ((c >>> 6) &&& 1)
def unhex (c : UInt8) : Int := Go.Lib.indexByte hexDigits (unhexArg c)
def hexPair (a b : UInt8) : UInt8 := ((unhex a).toNat * 16 + (unhex b).toNat).toUInt8

/-- A text without its percent signs; or where a wrong one stands. -/
def dec (plus : Bool) : Nat → Str → Except Nat Str
  | _, [] => .ok []
  | i, c :: r =>
    if c = 37 then
      match r with
      | a :: b :: r' => if unhex a < 0 ∨ unhex b < 0 then .error i else
          match dec plus (i + 3) r' with
          | .ok l => .ok (hexPair a b :: l)
          | .error k => .error k
      | _ => .error i
    else match dec plus (i + 1) r with
      | .ok l => .ok ((if plus = true ∧ c = 43 then 32 else c) :: l)
      | .error k => .error k

/-- The parts of a text between signs. -/
def splitOn (c : UInt8) : Str → List Str
  | [] => [[]]
  | x :: r => if x = c then [] :: splitOn c r else
    match splitOn c r with
    | [] => [[x]]
    | h :: t => (x :: h) :: t

def foldParts {σ : Type} (upd : σ → Str → Nat → σ × Bool) : σ → Nat → List Str → σ
  | st, _, [] => st
  | st, at_, p :: r => if (upd st p at_).2 then foldParts upd (upd st p at_).1 (at_ + p.length + 1) r else (upd st p at_).1

structure FormSt where
  out : List (Str × Str)
  e : Int
  place : Int

def eq61 : Str := [61]
def formStep (st : FormSt) (p : Str) (at_ : Nat) : FormSt × Bool :=
  if p = [] then (st, true) else
  match dec true 0 (Go.Lib.cut p eq61).1 with
  | .error k => ({ st with e := 60, place := at_ + k }, false)
  | .ok n => match dec true 0 (Go.Lib.cut p eq61).2.1 with
    | .error k => ({ st with e := 60, place := at_ + (Go.Lib.cut p eq61).1.length + 1 + k }, false)
    | .ok v => ({ st with out := st.out ++ [(n, v)], e := 0 }, true)
def formEnd (st : FormSt) : List (Str × Str) × Int × Int :=
  if st.e = 0 then (if 32 < st.out.length then ([], 2, st.place) else (st.out, 0, 0)) else ([], st.e, st.place)
def form (s : Str) : List (Str × Str) × Int × Int := formEnd (foldParts formStep ⟨[], 0, 0⟩ 0 (splitOn 38 s))

def firstOdd : Nat → Str → Option Nat
  | _, [] => none
  | i, c :: r => if isOdd c then some i else firstOdd (i + 1) r

def query63 : Str := [63]
def target (s : Str) : Str × List (Str × Str) × Int × Int :=
  if 1024 < s.length then ([], [], 4, 0)
  else if Go.Lib.hasPrefix s [47] = false then ([], [], 60, 0)
  else match firstOdd 0 s with
    | some i => ([], [], 60, i)
    | none => match dec false 0 (Go.Lib.cut s query63).1 with
      | .error k => ([], [], 60, k)
      | .ok path => if (Go.Lib.cut s query63).2.2 = false then (path, [], 0, 0)
        else if (form (Go.Lib.cut s query63).2.1).2.1 = 0 then (path, (form (Go.Lib.cut s query63).2.1).1, 0, 0)
        else ([], [], (form (Go.Lib.cut s query63).2.1).2.1,
          if (form (Go.Lib.cut s query63).2.1).2.1 = 60 then (form (Go.Lib.cut s query63).2.1).2.2 + ((Go.Lib.cut s query63).1.length + 1) else (form (Go.Lib.cut s query63).2.1).2.2)

/-- Blanks and tabs at both ends fall away. -/
def isBlank (c : UInt8) : Bool := c == 32 || c == 9
def trimL (l : Str) : Str := l.dropWhile isBlank
def trimR (l : Str) : Str := (l.reverse.dropWhile isBlank).reverse
def trim (l : Str) : Str := trimL (trimR l)

def cookieStep (out : List (Str × Str)) (p : Str) (_ : Nat) : List (Str × Str) × Bool :=
  if (Go.Lib.cut (trim p) eq61).2.2 then (out ++ [((Go.Lib.cut (trim p) eq61).1, (Go.Lib.cut (trim p) eq61).2.1)], decide (out.length + 1 < 32))
  else (out, decide (out.length < 32))
def cookies (s : Str) : List (Str × Str) := foldParts cookieStep [] 0 (splitOn 59 s)

def getP : List (Str × Str) → Str → Option Str
  | [], _ => none
  | p :: r, n => if p.1 = n then some p.2 else getP r n

/-! ### head -/
def smallB (c : UInt8) : UInt8 := if isLarge c then c + 32 else c
def small (s : Str) : Str := s.map smallB
def httpW : Str := [72, 84, 84, 80, 47]
def version (s : Str) : Bool := decide (s.length = 8) && (Go.Lib.hasPrefix s httpW && (isDigit (s.getD 5 0) && (decide (s.getD 6 0 = 46) && isDigit (s.getD 7 0))))

structure Hd where
  method : Str
  target : Str
  minor : Int
  fields : List (Str × Str)
def Hd.zero : Hd := ⟨[], [], 0, []⟩

def sp : Str := [32]
def colon : Str := [58]
def crlf : Str := [13, 10]
/-- A request's line: a status, or method, target, version. -/
def reqLine (line : Str) : Int × Str × Str × Int :=
  let m := (Go.Lib.cut line sp).1
  let c := Go.Lib.cut (Go.Lib.cut line sp).2.1 sp
  let t := c.1
  let v := c.2.1
  if c.2.2 = false ∨ m.length < 1 ∨ 16 < m.length ∨ m.all isLarge = false ∨ t = [] ∨ t.all isVisible = false ∨ version v = false then (400, [], [], 0)
  else if v.drop 5 ≠ [49, 46, 48] ∧ v.drop 5 ≠ [49, 46, 49] then (505, [], [], 0)
  else if (Clo.target t).2.2.1 ≠ 0 then (400, [], [], 0)
  else (0, m, t, (((v.getD 7 0).toNat : Int) - 48) % 256)

def fieldLine (n : Nat) (line : Str) : Int × Str × Str :=
  if n = 32 then (431, [], [])
  else if (Go.Lib.cut line colon).2.2 = false ∨ (Go.Lib.cut line colon).1 = [] ∨ (Go.Lib.cut line colon).1.all isToken = false ∨ (trim (Go.Lib.cut line colon).2.1).all isLoose = false then (400, [], [])
  else (0, small (Go.Lib.cut line colon).1, trim (Go.Lib.cut line colon).2.1)

def values (l : List (Str × Str)) (name : Str) : List Str := (l.filter fun f => decide (f.1 = small name)).map (·.2)
def host : Str := [104, 111, 115, 116]

def headEnd (h : Hd) : Hd × Int × Int :=
  if 1 < (values h.fields host).length ∨ (values h.fields host).length = 0 ∧ h.minor = 1 then (Hd.zero, 400, 0) else (h, 0, 0)

/-- The lines from a place on; first: the request's line is still to come. -/
def headLoop : Nat → Bool → Hd → Nat → Nat → Str → Hd × Int × Int
  | 0, _, _, _, _, _ => (Hd.zero, 400, 0)
  | fuel + 1, first, h, all, at_, s =>
    let line := (Go.Lib.cut s crlf).1
    let rest := (Go.Lib.cut s crlf).2.1
    if 1024 < line.length then (Hd.zero, 431, at_)
    else if (Go.Lib.cut s crlf).2.2 = false ∨ line.any (fun c => c == 13 || c == 10) then (Hd.zero, 400, at_)
    else if line = [] ∧ first = false then (if rest ≠ [] then (Hd.zero, 400, all) else headEnd h)
    else if first then
      if (reqLine line).1 ≠ 0 then (Hd.zero, (reqLine line).1, at_)
      else headLoop fuel false { h with method := (reqLine line).2.1, target := (reqLine line).2.2.1, minor := (reqLine line).2.2.2 } all (at_ + line.length + 2) rest
    else
      if (fieldLine h.fields.length line).1 ≠ 0 then (Hd.zero, (fieldLine h.fields.length line).1, at_)
      else headLoop fuel false { h with fields := h.fields ++ [((fieldLine h.fields.length line).2.1, (fieldLine h.fields.length line).2.2)] } all (at_ + line.length + 2) rest
def headParse (s : Str) : Hd × Int × Int :=
  if 4096 < s.length then (Hd.zero, 431, 0) else headLoop (s.length + 1) true Hd.zero s.length 0 s

def clName : Str := [99, 111, 110, 116, 101, 110, 116, 45, 108, 101, 110, 103, 116, 104]
def teName : Str := [116, 114, 97, 110, 115, 102, 101, 114, 45, 101, 110, 99, 111, 100, 105, 110, 103]
def chunkedW : Str := [99, 104, 117, 110, 107, 101, 100]
def connName : Str := [99, 111, 110, 110, 101, 99, 116, 105, 111, 110]
def closeW : Str := [99, 108, 111, 115, 101]
def keepW : Str := [107, 101, 101, 112, 45, 97, 108, 105, 118, 101]
def cookieName : Str := [99, 111, 111, 107, 105, 101]
/-- What digits spell. -/
def digitsVal (l : Str) : Nat := l.foldl (fun a c => a * 10 + (c.toNat - 48)) 0
/-- Which body a head asks for: its kind, its length, a status. -/
def bodyOf (h : Hd) : Int × Int × Int :=
  let ls := values h.fields clName
  let cs := values h.fields teName
  if 0 < ls.length ∧ 0 < cs.length then (0, 0, 400)
  else if 0 < cs.length then (if 1 < cs.length ∨ small (cs.getD 0 []) ≠ chunkedW ∨ h.minor ≠ 1 then (0, 0, 400) else (2, 0, 0))
  else if ls.length = 0 then (0, 0, 0)
  else
    let l := ls.getD 0 []
    if l.length < 1 ∨ 9 < l.length ∨ l.all isDigit = false ∨ ls.any (fun x => decide (x ≠ l)) then (0, 0, 400)
    else if 16384 < (digitsVal l : Int) then (0, 0, 413) else (1, (digitsVal l : Int), 0)

def words (h : Hd) : List Str := ((values h.fields connName).map fun v => (splitOn 44 v).map fun w => small (trim w)).flatten
def closes (h : Hd) : Bool := (words h).contains closeW || (decide (h.minor = 0) && !(words h).contains keepW)

/-! ### parse -/
def hexVal (c : UInt8) : Int :=
  if 48 ≤ c.toNat ∧ c.toNat ≤ 57 then (c.toNat : Int) - 48
  else if 97 ≤ c.toNat ∧ c.toNat ≤ 102 then (c.toNat : Int) - 87
  else if 65 ≤ c.toNat ∧ c.toNat ≤ 70 then (c.toNat : Int) - 55 else -1

/-- 0: CR LF stands there; 1: it may yet; 2: it does not. -/
def newline (s : Str) : Int := if Go.Lib.hasPrefix s crlf then 0 else if Go.Lib.hasPrefix crlf s then 1 else 2

inductive ChunkR where
  | more
  | bad (status : Int)
  | size (n : Nat) (at_ : Nat)
/-- The rest of a chunk's line behind its sign: where it ends, or that it goes on, or 400. -/
def chunkExt : Nat → Nat → Str → Option (Option Nat)
  | _, _, [] => some none
  | line, at_, c :: r => if (32 ≤ c.toNat ∧ c.toNat ≤ 126) ∨ c.toNat = 9 then (if 1024 ≤ at_ - line then none else chunkExt line (at_ + 1) r) else some (some at_)
/-- A chunk's size: digits from a place on. -/
def chunkSize : Nat → Nat → Nat → Str → ChunkR
  | _, _, _, [] => .more
  | size, digits, at_, c :: r =>
    if 0 ≤ hexVal c then (if digits = 8 then .bad 400 else chunkSize (size * 16 + (hexVal c).toNat) (digits + 1) (at_ + 1) r)
    else if digits = 0 then .bad 400 else .size size at_

def chunksLoop : Nat → Str → Nat → Str → Str × Int × Bool × Int
  | 0, _, _, _ => ([], 0, false, 400)
  | fuel + 1, body, at0, s =>
    match chunkSize 0 0 at0 (s.drop at0) with
    | .more => ([], 0, true, 0)
    | .bad st => ([], 0, false, st)
    | .size n at1 =>
      let ext : Option (Option Nat) := if s.getD at1 0 = 59 then chunkExt at0 (at1 + 1) (s.drop (at1 + 1)) else some (some at1)
      match ext with
      | none => ([], 0, false, 400)
      | some none => ([], 0, true, 0)
      | some (some at2) =>
        if newline (s.drop at2) = 2 then ([], 0, false, 400)
        else if newline (s.drop at2) = 1 then ([], 0, true, 0)
        else if 16384 < body.length + n then ([], 0, false, 413)
        else if s.length < at2 + 2 + n then ([], 0, true, 0)
        else
          let at3 := at2 + 2 + n
          if newline (s.drop at3) = 2 then ([], 0, false, 400)
          else if newline (s.drop at3) = 1 then ([], 0, true, 0)
          else if 0 < n then chunksLoop fuel (body ++ (s.drop (at2 + 2)).take n) (at3 + 2) s
          else (body ++ (s.drop (at2 + 2)).take n, (at3 + 2 : Nat), false, 0)
def chunks (s : Str) (at_ : Nat) : Str × Int × Bool × Int := chunksLoop (s.length + 1) [] at_ s

structure Rq where
  head : Hd
  path : Str
  query : List (Str × Str)
  body : Str
  close : Bool
def Rq.zero : Rq := ⟨Hd.zero, [], [], [], false⟩

/-- A parser: what waits; the status of what was wrong. -/
structure Ps where
  s : Str
  status : Int

def feed (p : Ps) (s : Str) : Ps × Int :=
  if p.status ≠ 0 then (p, 80) else if 65536 < p.s.length + s.length then (p, 2) else ({ p with s := p.s ++ s }, 0)

def breaks (st : Int) : Ps × Rq × Bool × Int := (⟨[], st⟩, Rq.zero, false, st)
def endOfHead : Str := [13, 10, 13, 10]
/-- The body: its bytes, where it ends, whether it goes on, a status. -/
def bodyAt (s : Str) (at_ : Nat) (kind n : Int) : Str × Nat × Bool × Int :=
  if kind = 1 then
    (if s.length < at_ + n.toNat then ([], at_ + n.toNat, true, 0) else ((s.drop at_).take n.toNat, at_ + n.toNat, false, 0))
  else if kind = 2 then ((chunks s at_).1, (chunks s at_).2.1.toNat, (chunks s at_).2.2.1, (chunks s at_).2.2.2)
  else ([], at_, false, 0)

def next (p : Ps) : Ps × Rq × Bool × Int :=
  if p.status ≠ 0 then (p, Rq.zero, false, p.status)
  else if Go.Lib.index p.s endOfHead < 0 then (if 4096 < p.s.length then breaks 431 else (p, Rq.zero, false, 0))
  else
    let at_ := (Go.Lib.index p.s endOfHead).toNat + 4
    let h := headParse (p.s.take at_)
    if h.2.1 ≠ 0 then breaks h.2.1
    else
      let k := bodyOf h.1
      if k.2.2 ≠ 0 then breaks k.2.2
      else
        let b := bodyAt p.s at_ k.1 k.2.1
        if b.2.2.2 ≠ 0 then breaks b.2.2.2
        else if b.2.2.1 then (p, Rq.zero, false, 0)
        else (⟨p.s.drop b.2.1, p.status⟩, ⟨h.1, (target h.1.target).1, (target h.1.target).2.1, b.1, closes h.1⟩, true, 0)

/-! ### reply -/
structure Rs where
  status : Int
  fields : List (Str × Str)
  body : Str
  close : Bool

def reasons : List (Int × Str) := [(200, [79, 75]), (201, [67, 114, 101, 97, 116, 101, 100]), (204, [78, 111, 32, 67, 111, 110, 116, 101, 110, 116]),
  (400, [66, 97, 100, 32, 82, 101, 113, 117, 101, 115, 116]), (401, [85, 110, 97, 117, 116, 104, 111, 114, 105, 122, 101, 100]), (403, [70, 111, 114, 98, 105, 100, 100, 101, 110]),
  (404, [78, 111, 116, 32, 70, 111, 117, 110, 100]), (409, [67, 111, 110, 102, 108, 105, 99, 116]), (413, [67, 111, 110, 116, 101, 110, 116, 32, 84, 111, 111, 32, 76, 97, 114, 103, 101]),
  (431, [82, 101, 113, 117, 101, 115, 116, 32, 72, 101, 97, 100, 101, 114, 32, 70, 105, 101, 108, 100, 115, 32, 84, 111, 111, 32, 76, 97, 114, 103, 101]),
  (500, [73, 110, 116, 101, 114, 110, 97, 108, 32, 83, 101, 114, 118, 101, 114, 32, 69, 114, 114, 111, 114]), (503, [83, 101, 114, 118, 105, 99, 101, 32, 85, 110, 97, 118, 97, 105, 108, 97, 98, 108, 101]),
  (505, [72, 84, 84, 80, 32, 86, 101, 114, 115, 105, 111, 110, 32, 78, 111, 116, 32, 83, 117, 112, 112, 111, 114, 116, 101, 100])]
def reasonIn : List (Int × Str) → Int → Option Str
  | [], _ => none
  | p :: r, n => if p.1 = n then some p.2 else reasonIn r n
def statusW : Str := [83, 116, 97, 116, 117, 115]
def words_ (st : Int) : Str := (reasonIn reasons st).getD statusW

def nameByte (c : UInt8) : Bool := decide (97 ≤ c.toNat ∧ c.toNat ≤ 122) || isDigit c || isMark c
def nameOk (s : Str) : Bool := s.all nameByte && decide (s ≠ [] ∧ s ≠ clName ∧ s ≠ connName)
def valueByte (c : UInt8) : Bool := decide (c.toNat = 9 ∨ 32 ≤ c.toNat ∧ c.toNat ≤ 126)
def valueOk (s : Str) : Bool := s.all valueByte && decide (trim s = s)
def may (r : Rs) : Bool := decide (200 ≤ r.status ∧ r.status ≤ 599 ∧ r.fields.length ≤ 32 ∧ r.body.length ≤ 1048576) && r.fields.all fun f => nameOk f.1 && valueOk f.2

def colonSp : Str := [58, 32]
def http11 : Str := [72, 84, 84, 80, 47, 49, 46, 49, 32]
def fieldsText : List (Str × Str) → Str
  | [] => []
  | f :: r => f.1 ++ colonSp ++ f.2 ++ crlf ++ fieldsText r
def endW (close : Bool) : Str := if close then closeW else keepW
def clColon : Str := clName ++ colonSp
def connColon : Str := crlf ++ connName ++ colonSp
def printText (r : Rs) : Str :=
  http11 ++ Go.Lib.itoa r.status ++ sp ++ words_ r.status ++ crlf ++ fieldsText r.fields ++
    (clColon ++ Go.Lib.itoa r.body.length ++ connColon ++ endW r.close ++ endOfHead ++ r.body)
def print (r : Rs) : Option Str := if may r then some (printText r) else none
def plainR (status : Int) (close : Bool) : Rs := ⟨status, [], [], close⟩
/-- What goes out for a response. -/
def outOf (r : Rs) : Str := (print r).getD (printText (plainR 500 r.close))

end Clo
