/- Short forms of what small codes are made of. No program. -/
import Derived.Test.YtfaieigeojiiiaaGreatVo
set_option linter.unusedVariables false
namespace Go.Va
open Go Go.Sh
def yg (g : Nat) (c : CO) : CO := ⟨c.dst, c.m, some (g, true)⟩
def yh (g : Nat) (c : CO) : CO := ⟨c.dst, c.m, some (g, false)⟩
def ym (d a : Nat) : CO := ⟨some d, .mov (.t a), none⟩
def yf (d o a : Nat) : CO := ⟨some d, .fadr o (.t a), none⟩
def yl (d k a : Nat) : CO := ⟨some d, .ld k false (.t a), none⟩
def yL (d k a : Nat) : CO := ⟨some d, .ld k true (.t a), none⟩
def ys (k a b : Nat) : CO := ⟨none, .st k (.t a) (.t b), none⟩
def yn (d a : Nat) : CO := ⟨some d, .nilc (.t a), none⟩
def yc (d f : Nat) (l : List Opd) : CO := ⟨some d, .call (.c (.fn (.func f) [] [])) l, none⟩
def y0 (f : Nat) (l : List Opd) : CO := ⟨none, .call (.c (.fn (.func f) [] [])) l, none⟩
def y1 (d f a : Nat) : CO := ⟨some d, .call (.c (.fn (.func f) [] [])) [.t a], none⟩
def y2 (d f a b : Nat) : CO := ⟨some d, .call (.c (.fn (.func f) [] [])) [.t a, .t b], none⟩
def y3 (d f a b c : Nat) : CO := ⟨some d, .call (.c (.fn (.func f) [] [])) [.t a, .t b, .t c], none⟩
def yi (d k a b : Nat) : CO := ⟨some d, .iadr k (.t a) (.t b), none⟩
def ya (d a : Nat) (n : Int) : CO := ⟨some d, .bin .add (.t a) (.c (.int .i64 n)), none⟩
def yu (d a : Nat) (n : Int) : CO := ⟨some d, .bin .sub (.t a) (.c (.int .i64 n)), none⟩
def ye (d a : Nat) (n : Int) : CO := ⟨some d, .bin .eql (.t a) (.c (.int .i64 n)), none⟩
def yz (d : Nat) (n : Int) : CO := ⟨some d, .mov (.c (.int .i64 n)), none⟩
def yb (d : Nat) (op : BinOp) (a b : Nat) : CO := ⟨some d, .bin op (.t a) (.t b), none⟩
def yA (d a b : Nat) : CO := ⟨some d, .pick (.t a) (.t b) (.c (.bool false)), none⟩
def yO (d a b : Nat) : CO := ⟨some d, .pick (.t a) (.c (.bool true)) (.t b), none⟩
def yx (d a i : Nat) : CO := ⟨some d, .ext (.t a) i, none⟩
def yt (d : Nat) : CO := ⟨some d, .mov (.c (.bool true)), none⟩
def yF (d : Nat) : CO := ⟨some d, .mov (.c (.bool false)), none⟩
def yB (d a : Nat) : CO := ⟨some d, .box (.t a), none⟩
def yS (d a : Nat) : CO := ⟨some d, .lenS (.t a), none⟩
def yT (d a : Nat) : CO := ⟨some d, .lenT (.t a), none⟩
def yN (d a : Nat) : CO := ⟨some d, .not (.t a), none⟩
def yE (d : Nat) : CO := ⟨some d, .mov (.c .nsl), none⟩
def yp (d k b s x : Nat) : CO := ⟨some d, .app k b (.t s) (.t x), none⟩
def yI : Int → FV := .int .i64
def ansB : FV → Prop
  | .bool b => b = true
  | _ => False
end Go.Va
