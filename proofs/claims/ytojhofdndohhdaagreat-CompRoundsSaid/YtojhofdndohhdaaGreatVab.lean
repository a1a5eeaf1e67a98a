/- Short forms of what small codes are made of: so that printed tables are small. No program. -/
import Derived.Test.YtojhofdndohhdaaGreatVy
set_option linter.unusedVariables false
set_option linter.unusedSectionVars false
noncomputable section
namespace Go.Va
open Go Go.Sh
variable [Vl]
def yM (i a d : Nat) (r : RF) : RF := rQ1 i [a] ⟨some d, .mov (.t a), none⟩ d (qMovF (.t a)) r
def yL (i a d k : Nat) (g : Bool) (r : RF) : RF := rQ1 i [a] ⟨some d, .ld k g (.t a), none⟩ d (qLdF k g (.t a)) r
def yF (i a d o : Nat) (r : RF) : RF := rQ1 i [a] ⟨some d, .fadr o (.t a), none⟩ d (qFadrF o (.t a)) r
def yC (i a d : Nat) (r : RF) : RF := rQ1 i [a] ⟨some d, .nilc (.t a), none⟩ d (qNilcF (.t a)) r
def yI (i : Nat) (ts : List Nat) (d k : Nat) (x y : Opd) (r : RF) : RF := rQ1 i ts ⟨some d, .iadr k x y, none⟩ d (qIadrF k x y) r
def yB (i : Nat) (ts : List Nat) (d : Nat) (o : BinOp) (p : OpI) (x y : Opd) (r : RF) : RF := rQ1 i ts ⟨some d, .bin o x y, none⟩ d (qBinF o p x y) r
def gM (i : Nat) (ts : List Nat) (a d g : Nat) (w : Bool) (r : RF) : RF := rQ i ts ⟨some d, .mov (.t a), some (g, w)⟩ (qMovF (.t a)) r
def gL (i : Nat) (ts : List Nat) (a d k : Nat) (b : Bool) (g : Nat) (w : Bool) (r : RF) : RF := rQ i ts ⟨some d, .ld k b (.t a), some (g, w)⟩ (qLdF k b (.t a)) r
def gF (i : Nat) (ts : List Nat) (a d o g : Nat) (w : Bool) (r : RF) : RF := rQ i ts ⟨some d, .fadr o (.t a), some (g, w)⟩ (qFadrF o (.t a)) r
def gC (i : Nat) (ts : List Nat) (a d g : Nat) (w : Bool) (r : RF) : RF := rQ i ts ⟨some d, .nilc (.t a), some (g, w)⟩ (qNilcF (.t a)) r
def yK (ts : List Nat) (d : Option Nat) (f : Nat) (l : List Opd) (g : Option (Nat × Bool)) (dp : List Nat) (r : RF) : RF := rE ts ⟨d, .call (.c (.fn (.func f) [] [])) l, g⟩ dp (xCallF (.c (.fn (.func f) [] [])) l) r
def hj (f : Nat) (l : List FV) (k : HK) : SF := hJ (.fn (.func f) [] []) l k
def yn (x : FV) (k : HK) : SF := hQF (qNilcF (.c x)) k
def yz (x : FV) (k : HK) : SF := hQF (qLenSF (.c x)) k
def ya (o t : Nat) (k : HK) : SF := hQF (qFadrF o (.t t)) k
def yl (x : FV) (k : HK) : SF := hL 1 false x k
def zi (n : Int) : FV := .int .i64 n
abbrev cN := @cRowN
abbrev cS := @cSeq
end Go.Va
