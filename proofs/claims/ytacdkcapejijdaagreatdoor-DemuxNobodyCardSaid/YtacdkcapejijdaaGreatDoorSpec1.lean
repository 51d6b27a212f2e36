/- Plain functions that say what the program's small text functions answer (no program here). -/
import Derived.Lib.Strings
import Derived.Lib.Bytealg
import Derived.Lib.IndexMore
namespace Clo

abbrev Str := List UInt8

def isLarge (c : UInt8) : Bool := decide (65 ≤ c.toNat ∧ c.toNat ≤ 90)
def isVisible (c : UInt8) : Bool := decide (33 ≤ c.toNat ∧ c.toNat ≤ 126)
def isLoose (c : UInt8) : Bool := decide ((33 ≤ c.toNat ∧ c.toNat ≤ 126) ∨ c.toNat = 32 ∨ c.toNat = 9)
def isDigit (c : UInt8) : Bool := decide (48 ≤ c.toNat ∧ c.toNat ≤ 57)
def isOdd (c : UInt8) : Bool := decide (c.toNat < 33 ∨ 126 < c.toNat ∨ c.toNat = 35)
def marks : List UInt8 := [33, 35, 36, 37, 38, 39, 42, 43, 45, 46, 94, 95, 96, 124, 126]
def isMark (c : UInt8) : Bool := decide (0 ≤ Go.Lib.indexByte marks c)
def isToken (c : UInt8) : Bool := isLarge c || decide (97 ≤ c.toNat ∧ c.toNat ≤ 122) || isDigit c || isMark c

end Clo
