/- Plain functions that say what the package demux of the program answers (no program here). -/
import Derived.Test.YtacdkcapejijdaaGreatDoorSpec2
namespace Clo

structure Act where
  kind : Int
  out : Str
  close : Bool
  user : Int
  token : Str
  name : Str
  word : Str
  request : Rq
def Act.zero : Act := ⟨0, [], false, 0, [], [], [], Rq.zero⟩

structure Cn where
  ps : Ps
  user : Int
  closed : Bool
  lost : Bool
  waits : Bool
  asks : Int
  ends : Bool
  answer : Option Rs
def Cn.fresh : Cn := ⟨⟨[], 0⟩, -1, false, false, false, -1, false, none⟩

/-- Connections: c by number, ss by token. -/
structure Dm where
  users : Int
  conns : Int
  asks : Int
  c : Int → Option Cn
  ss : Str → Option Int

def upd {α β : Type} [DecidableEq α] (f : α → β) (a : α) (b : β) : α → β := fun x => if x = a then b else f x
theorem upd_same {α β : Type} [DecidableEq α] (f : α → β) (a : α) (b : β) : upd f a b a = b := by simp [upd]
theorem upd_ne {α β : Type} [DecidableEq α] (f : α → β) {a x : α} (b : β) (h : x ≠ a) : upd f a b x = f x := by simp [upd, h]

def isC (i : Int) : Bool := decide (0 ≤ i) && decide (i < 64)
def Dm.set (d : Dm) (i : Int) (c : Cn) : Dm := { d with c := upd d.c i (some c) }

def dmNew (users conns asks : Int) : Dm := ⟨users, conns, asks, fun _ => none, fun _ => none⟩
def dmOpen (d : Dm) (i : Int) : Bool := match d.c i with | some c => !c.closed | none => false
def dmArrive (d : Dm) (i : Int) (s : Str) : Dm × Int :=
  if isC i = false ∨ 65536 < s.length then (d, 1)
  else
    let c := (d.c i).getD Cn.fresh
    if c.closed then (d, 80)
    else (d.set i { c with ps := (feed c.ps s).1, lost := decide ((feed c.ps s).2 = 2) || c.lost }, 0)
def dmShut (d : Dm) (i : Int) : Dm × Int :=
  if isC i = false then (d, 1)
  else match d.c i with
    | none => (d, 3)
    | some c => if c.closed then (d, 3) else (d.set i { c with closed := true }, 0)
def dmBind (d : Dm) (t : Str) (u : Int) : Dm × Int :=
  if u < 0 ∨ d.users ≤ u ∨ t = [] then (d, 1) else ({ d with ss := upd d.ss t (some u) }, 0)
def dmFree (d : Dm) (t : Str) : Dm × Int :=
  match d.ss t with
  | none => (d, 3)
  | some _ => ({ d with ss := upd d.ss t none }, 0)
def dmUser (d : Dm) (i : Int) : Int := match d.c i with | some c => c.user | none => -1
def dmWaits (d : Dm) (i : Int) : Bool := match d.c i with | some c => c.waits | none => false

def cnOwn (u : Int) : Option Cn → Bool
  | some c => !c.closed && decide (c.user = u)
  | none => false
def cnAsk (u : Int) : Option Cn → Bool
  | some c => c.waits && decide (c.asks = u)
  | none => false
/-- How many of the connections 0 .. n-1 meet p. -/
def countC (p : Option Cn → Bool) (c : Int → Option Cn) : Nat → Nat
  | 0 => 0
  | n + 1 => countC p c n + (if p (c (n : Int)) then 1 else 0)
def dmCounts (d : Dm) (u : Int) : Int × Int :=
  if u < 0 ∨ d.users ≤ u then (0, 0) else ((countC (cnOwn u) d.c 64 : Nat), (countC (cnAsk u) d.c 64 : Nat))

def cnEmits (c : Cn) (r : Rs) : Cn × Act :=
  ({ c with closed := c.closed || r.close }, { Act.zero with kind := 1, out := outOf r, close := r.close })
def cnHands (c : Cn) (r : Rq) (user : Int) (a : Act) : Cn × Act := ({ c with waits := true, asks := user, ends := r.close }, a)

def userW : Str := [117, 115, 101, 114]
def wordW : Str := [119, 111, 114, 100]
def sidW : Str := [115, 105, 100]
def postW : Str := [80, 79, 83, 84]
def loginW : Str := [47, 108, 111, 103, 105, 110]
def logoutW : Str := [47, 108, 111, 103, 111, 117, 116]

def cnLogin (c : Cn) (r : Rq) : Cn × Act :=
  match getP (form r.body).1 userW, getP (form r.body).1 wordW with
  | some name, some word =>
    if (form r.body).2.1 ≠ 0 then cnEmits c (plainR 400 r.close)
    else if c.user ≠ -1 then cnEmits c (plainR 403 r.close)
    else cnHands c r (-1) { Act.zero with kind := 2, name := name, word := word }
  | _, _ => cnEmits c (plainR 400 r.close)

def tokenIn : List Str → Str
  | [] => []
  | v :: r => match getP (cookies v) sidW with
    | some t => t
    | none => tokenIn r
def tokenOf (r : Rq) : Str := tokenIn (values r.head.fields cookieName)

def dmRequest (d : Dm) (c : Cn) (r : Rq) : Cn × Act :=
  if r.head.method = postW ∧ r.path = loginW then cnLogin c r
  else match d.ss (tokenOf r) with
    | none => cnEmits c (plainR 401 r.close)
    | some user =>
      if c.user ≠ -1 ∧ c.user ≠ user then cnEmits c (plainR 403 r.close)
      else if c.user = -1 ∧ d.conns ≤ (dmCounts d user).1 then cnEmits c (plainR 503 true)
      else
        let c := { c with user := user }
        if r.head.method = postW ∧ r.path = logoutW then cnHands c r (-1) { Act.zero with kind := 3, user := user, token := tokenOf r }
        else if d.asks ≤ (dmCounts d user).2 then cnEmits c (plainR 503 r.close)
        else cnHands c r user { Act.zero with kind := 4, user := user, request := r }

/-- What an open connection does next. -/
def cnPick (d : Dm) (i : Int) (c : Cn) : Cn × Act :=
  match c.answer with
  | some r => cnEmits { c with answer := none } { r with close := r.close || c.ends }
  | none =>
    if c.waits then (c, Act.zero)
    else if c.lost then cnEmits c (plainR 413 true)
    else
      let n := next c.ps
      let c := { c with ps := n.1 }
      if n.2.2.2 ≠ 0 then cnEmits c (plainR n.2.2.2 true)
      else if n.2.2.1 = false then (c, Act.zero)
      else dmRequest (d.set i c) c n.2.1
def dmPick (d : Dm) (i : Int) : Dm × Act × Int :=
  if isC i = false then (d, Act.zero, 1)
  else match d.c i with
    | none => (d, Act.zero, 0)
    | some c => if c.closed then (d, Act.zero, 0) else (d.set i (cnPick d i c).1, (cnPick d i c).2, 0)
def dmAnswer (d : Dm) (i : Int) (r : Rs) : Dm × Int :=
  if isC i = false then (d, 1)
  else match d.c i with
    | none => (d, 3)
    | some c => if c.waits = false then (d, 3)
      else (d.set i { c with waits := false, asks := -1, answer := if c.closed then c.answer else some r }, 0)

end Clo
