/- The law's runs answer true. -/
import Derived.Test.YtfaieigeojiiiaaGreatMv5
import Derived.Test.YtfaieigeojiiiaaGreatMw0
import Derived.Test.YtfaieigeojiiiaaGreatMw1
import Derived.Test.YtfaieigeojiiiaaGreatMw2
import Derived.Test.YtfaieigeojiiiaaGreatMw3
set_option linter.unusedVariables false
set_option maxRecDepth 100000
noncomputable section
namespace Go.Proofs.YtfaieigeojiiiaaGreat
open Go Go.Sh Go.Va
theorem consNe {x : LD} {l : List LD} {A : Prop} : (x :: l) = [] → A := fun h => nomatch h
theorem r0ftt {al mod : LD} {rl rh lo hi wr : Int} (hm : (decide (5 < (Int.ofNat mod.len))) = false) (ha : (decide (5 < (Int.ofNat al.len))) = false) (hx : (decide ((max lo hi) < (min lo hi))) = false) (h1 : (decide ((wr % 3) = 1)) = false) (h2 : (decide ((wr % 3) = 2)) = false) (h3 : (decide (0 < (wr % 3))) = false) (hal : (decide (0 < (Int.ofNat al.len))) = true) : T3w0ftt al true false rl rh mod lo hi wr q52 q85 q79 q12 q13 qq24 qq94 qq135 qq3 := by
  refine Eq.mpr (e3w0ftt ..) ?_
  repeat' first
    | exact rfl
    | exact consNe
    | refine And.intro (by first | rfl | assumption) ?_
    | refine u3 (by assumption) (fun mod' hn hl => ?_) fun _ => ?_
    | refine u135 hn hl noP_n fun a c p' w' hp => ?_
    | refine u52f hp ?_
    | refine u52g hp (by assumption) fun a c p' hp => ?_
    | refine u79 hp fun a c p' hp => ?_
    | refine u94 hn hl fun a c w' => ?_
    | refine u85f ?_
    | refine u85g (by assumption) fun a c => ?_
    | refine u24n ?_
    | refine u24l ?_
    | refine u12 (by first | exact .f _ _ _ _ | exact .t _ _ _ _ _ _ _ _ _ _ _ _ _ _ _ _ _ _ hp noP_n) ?_
    | refine u13 (by first | exact .n | exact .e _ _ | exact .l _ _ _ _ _ _) ?_
    | refine And.intro ?_ ?_
    | intro _
theorem r0ftf {al mod : LD} {rl rh lo hi wr : Int} (hm : (decide (5 < (Int.ofNat mod.len))) = false) (ha : (decide (5 < (Int.ofNat al.len))) = false) (hx : (decide ((max lo hi) < (min lo hi))) = false) (h1 : (decide ((wr % 3) = 1)) = false) (h2 : (decide ((wr % 3) = 2)) = false) (h3 : (decide (0 < (wr % 3))) = false) (hal : (decide (0 < (Int.ofNat al.len))) = true) : T3w0ftf al false false rl rh mod lo hi wr q52 q85 q79 q12 q13 qq24 qq94 qq135 qq3 := by
  refine Eq.mpr (e3w0ftf ..) ?_
  repeat' first
    | exact rfl
    | exact consNe
    | refine And.intro (by first | rfl | assumption) ?_
    | refine u3 (by assumption) (fun mod' hn hl => ?_) fun _ => ?_
    | refine u135 hn hl noP_n fun a c p' w' hp => ?_
    | refine u52f hp ?_
    | refine u52g hp (by assumption) fun a c p' hp => ?_
    | refine u79 hp fun a c p' hp => ?_
    | refine u94 hn hl fun a c w' => ?_
    | refine u85f ?_
    | refine u85g (by assumption) fun a c => ?_
    | refine u24n ?_
    | refine u24l ?_
    | refine u12 (by first | exact .f _ _ _ _ | exact .t _ _ _ _ _ _ _ _ _ _ _ _ _ _ _ _ _ _ hp noP_n) ?_
    | refine u13 (by first | exact .n | exact .e _ _ | exact .l _ _ _ _ _ _) ?_
    | refine And.intro ?_ ?_
    | intro _
theorem r0fft {al mod : LD} {rl rh lo hi wr : Int} (hm : (decide (5 < (Int.ofNat mod.len))) = false) (ha : (decide (5 < (Int.ofNat al.len))) = false) (hx : (decide ((max lo hi) < (min lo hi))) = false) (h1 : (decide ((wr % 3) = 1)) = false) (h2 : (decide ((wr % 3) = 2)) = false) (h3 : (decide (0 < (wr % 3))) = false) (hal : (decide (0 < (Int.ofNat al.len))) = false) : T3w0fft al true false rl rh mod lo hi wr q52 q85 q79 q12 q13 qq24 qq94 qq135 qq3 := by
  refine Eq.mpr (e3w0fft ..) ?_
  repeat' first
    | exact rfl
    | exact consNe
    | refine And.intro (by first | rfl | assumption) ?_
    | refine u3 (by assumption) (fun mod' hn hl => ?_) fun _ => ?_
    | refine u135 hn hl noP_n fun a c p' w' hp => ?_
    | refine u52f hp ?_
    | refine u52g hp (by assumption) fun a c p' hp => ?_
    | refine u79 hp fun a c p' hp => ?_
    | refine u94 hn hl fun a c w' => ?_
    | refine u85f ?_
    | refine u85g (by assumption) fun a c => ?_
    | refine u24n ?_
    | refine u24l ?_
    | refine u12 (by first | exact .f _ _ _ _ | exact .t _ _ _ _ _ _ _ _ _ _ _ _ _ _ _ _ _ _ hp noP_n) ?_
    | refine u13 (by first | exact .n | exact .e _ _ | exact .l _ _ _ _ _ _) ?_
    | refine And.intro ?_ ?_
    | intro _
theorem r0fff {al mod : LD} {rl rh lo hi wr : Int} (hm : (decide (5 < (Int.ofNat mod.len))) = false) (ha : (decide (5 < (Int.ofNat al.len))) = false) (hx : (decide ((max lo hi) < (min lo hi))) = false) (h1 : (decide ((wr % 3) = 1)) = false) (h2 : (decide ((wr % 3) = 2)) = false) (h3 : (decide (0 < (wr % 3))) = false) (hal : (decide (0 < (Int.ofNat al.len))) = false) : T3w0fff al false false rl rh mod lo hi wr q52 q85 q79 q12 q13 qq24 qq94 qq135 qq3 := by
  refine Eq.mpr (e3w0fff ..) ?_
  repeat' first
    | exact rfl
    | exact consNe
    | refine And.intro (by first | rfl | assumption) ?_
    | refine u3 (by assumption) (fun mod' hn hl => ?_) fun _ => ?_
    | refine u135 hn hl noP_n fun a c p' w' hp => ?_
    | refine u52f hp ?_
    | refine u52g hp (by assumption) fun a c p' hp => ?_
    | refine u79 hp fun a c p' hp => ?_
    | refine u94 hn hl fun a c w' => ?_
    | refine u85f ?_
    | refine u85g (by assumption) fun a c => ?_
    | refine u24n ?_
    | refine u24l ?_
    | refine u12 (by first | exact .f _ _ _ _ | exact .t _ _ _ _ _ _ _ _ _ _ _ _ _ _ _ _ _ _ hp noP_n) ?_
    | refine u13 (by first | exact .n | exact .e _ _ | exact .l _ _ _ _ _ _) ?_
    | refine And.intro ?_ ?_
    | intro _
theorem r0ntt {al mod : LD} {rl rh lo hi wr : Int} (hm : (decide (5 < (Int.ofNat mod.len))) = false) (ha : (decide (5 < (Int.ofNat al.len))) = false) (hx : (decide ((max lo hi) < (min lo hi))) = false) (h1 : (decide ((wr % 3) = 1)) = false) (h2 : (decide ((wr % 3) = 2)) = false) (h3 : (decide (0 < (wr % 3))) = false) (hr : (decide (rh < rl)) = true) (hal : (decide (0 < (Int.ofNat al.len))) = true) : T3w0ntt al true true rl rh mod lo hi wr q52 q85 q79 q12 q13 qq24 qq94 qq135 qq3 := by
  refine Eq.mpr (e3w0ntt ..) ?_
  repeat' first
    | exact rfl
    | exact consNe
    | refine And.intro (by first | rfl | assumption) ?_
    | refine u3 (by assumption) (fun mod' hn hl => ?_) fun _ => ?_
    | refine u135 hn hl noP_n fun a c p' w' hp => ?_
    | refine u52f hp ?_
    | refine u52g hp (by assumption) fun a c p' hp => ?_
    | refine u79 hp fun a c p' hp => ?_
    | refine u94 hn hl fun a c w' => ?_
    | refine u85f ?_
    | refine u85g (by assumption) fun a c => ?_
    | refine u24n ?_
    | refine u24l ?_
    | refine u12 (by first | exact .f _ _ _ _ | exact .t _ _ _ _ _ _ _ _ _ _ _ _ _ _ _ _ _ _ hp noP_n) ?_
    | refine u13 (by first | exact .n | exact .e _ _ | exact .l _ _ _ _ _ _) ?_
    | refine And.intro ?_ ?_
    | intro _
theorem r0ntf {al mod : LD} {rl rh lo hi wr : Int} (hm : (decide (5 < (Int.ofNat mod.len))) = false) (ha : (decide (5 < (Int.ofNat al.len))) = false) (hx : (decide ((max lo hi) < (min lo hi))) = false) (h1 : (decide ((wr % 3) = 1)) = false) (h2 : (decide ((wr % 3) = 2)) = false) (h3 : (decide (0 < (wr % 3))) = false) (hr : (decide (rh < rl)) = true) (hal : (decide (0 < (Int.ofNat al.len))) = true) : T3w0ntf al false true rl rh mod lo hi wr q52 q85 q79 q12 q13 qq24 qq94 qq135 qq3 := by
  refine Eq.mpr (e3w0ntf ..) ?_
  repeat' first
    | exact rfl
    | exact consNe
    | refine And.intro (by first | rfl | assumption) ?_
    | refine u3 (by assumption) (fun mod' hn hl => ?_) fun _ => ?_
    | refine u135 hn hl noP_n fun a c p' w' hp => ?_
    | refine u52f hp ?_
    | refine u52g hp (by assumption) fun a c p' hp => ?_
    | refine u79 hp fun a c p' hp => ?_
    | refine u94 hn hl fun a c w' => ?_
    | refine u85f ?_
    | refine u85g (by assumption) fun a c => ?_
    | refine u24n ?_
    | refine u24l ?_
    | refine u12 (by first | exact .f _ _ _ _ | exact .t _ _ _ _ _ _ _ _ _ _ _ _ _ _ _ _ _ _ hp noP_n) ?_
    | refine u13 (by first | exact .n | exact .e _ _ | exact .l _ _ _ _ _ _) ?_
    | refine And.intro ?_ ?_
    | intro _
theorem r0nft {al mod : LD} {rl rh lo hi wr : Int} (hm : (decide (5 < (Int.ofNat mod.len))) = false) (ha : (decide (5 < (Int.ofNat al.len))) = false) (hx : (decide ((max lo hi) < (min lo hi))) = false) (h1 : (decide ((wr % 3) = 1)) = false) (h2 : (decide ((wr % 3) = 2)) = false) (h3 : (decide (0 < (wr % 3))) = false) (hr : (decide (rh < rl)) = true) (hal : (decide (0 < (Int.ofNat al.len))) = false) : T3w0nft al true true rl rh mod lo hi wr q52 q85 q79 q12 q13 qq24 qq94 qq135 qq3 := by
  refine Eq.mpr (e3w0nft ..) ?_
  repeat' first
    | exact rfl
    | exact consNe
    | refine And.intro (by first | rfl | assumption) ?_
    | refine u3 (by assumption) (fun mod' hn hl => ?_) fun _ => ?_
    | refine u135 hn hl noP_n fun a c p' w' hp => ?_
    | refine u52f hp ?_
    | refine u52g hp (by assumption) fun a c p' hp => ?_
    | refine u79 hp fun a c p' hp => ?_
    | refine u94 hn hl fun a c w' => ?_
    | refine u85f ?_
    | refine u85g (by assumption) fun a c => ?_
    | refine u24n ?_
    | refine u24l ?_
    | refine u12 (by first | exact .f _ _ _ _ | exact .t _ _ _ _ _ _ _ _ _ _ _ _ _ _ _ _ _ _ hp noP_n) ?_
    | refine u13 (by first | exact .n | exact .e _ _ | exact .l _ _ _ _ _ _) ?_
    | refine And.intro ?_ ?_
    | intro _
theorem r0nff {al mod : LD} {rl rh lo hi wr : Int} (hm : (decide (5 < (Int.ofNat mod.len))) = false) (ha : (decide (5 < (Int.ofNat al.len))) = false) (hx : (decide ((max lo hi) < (min lo hi))) = false) (h1 : (decide ((wr % 3) = 1)) = false) (h2 : (decide ((wr % 3) = 2)) = false) (h3 : (decide (0 < (wr % 3))) = false) (hr : (decide (rh < rl)) = true) (hal : (decide (0 < (Int.ofNat al.len))) = false) : T3w0nff al false true rl rh mod lo hi wr q52 q85 q79 q12 q13 qq24 qq94 qq135 qq3 := by
  refine Eq.mpr (e3w0nff ..) ?_
  repeat' first
    | exact rfl
    | exact consNe
    | refine And.intro (by first | rfl | assumption) ?_
    | refine u3 (by assumption) (fun mod' hn hl => ?_) fun _ => ?_
    | refine u135 hn hl noP_n fun a c p' w' hp => ?_
    | refine u52f hp ?_
    | refine u52g hp (by assumption) fun a c p' hp => ?_
    | refine u79 hp fun a c p' hp => ?_
    | refine u94 hn hl fun a c w' => ?_
    | refine u85f ?_
    | refine u85g (by assumption) fun a c => ?_
    | refine u24n ?_
    | refine u24l ?_
    | refine u12 (by first | exact .f _ _ _ _ | exact .t _ _ _ _ _ _ _ _ _ _ _ _ _ _ _ _ _ _ hp noP_n) ?_
    | refine u13 (by first | exact .n | exact .e _ _ | exact .l _ _ _ _ _ _) ?_
    | refine And.intro ?_ ?_
    | intro _
theorem r0gtt {al mod : LD} {rl rh lo hi wr : Int} (hm : (decide (5 < (Int.ofNat mod.len))) = false) (ha : (decide (5 < (Int.ofNat al.len))) = false) (hx : (decide ((max lo hi) < (min lo hi))) = false) (h1 : (decide ((wr % 3) = 1)) = false) (h2 : (decide ((wr % 3) = 2)) = false) (h3 : (decide (0 < (wr % 3))) = false) (hr : (decide (rh < rl)) = false) (hal : (decide (0 < (Int.ofNat al.len))) = true) : T3w0gtt al true true rl rh mod lo hi wr q52 q85 q79 q12 q13 qq24 qq94 qq135 qq3 := by
  refine Eq.mpr (e3w0gtt ..) ?_
  repeat' first
    | exact rfl
    | exact consNe
    | refine And.intro (by first | rfl | assumption) ?_
    | refine u3 (by assumption) (fun mod' hn hl => ?_) fun _ => ?_
    | refine u135 hn hl noP_n fun a c p' w' hp => ?_
    | refine u52f hp ?_
    | refine u52g hp (by assumption) fun a c p' hp => ?_
    | refine u79 hp fun a c p' hp => ?_
    | refine u94 hn hl fun a c w' => ?_
    | refine u85f ?_
    | refine u85g (by assumption) fun a c => ?_
    | refine u24n ?_
    | refine u24l ?_
    | refine u12 (by first | exact .f _ _ _ _ | exact .t _ _ _ _ _ _ _ _ _ _ _ _ _ _ _ _ _ _ hp noP_n) ?_
    | refine u13 (by first | exact .n | exact .e _ _ | exact .l _ _ _ _ _ _) ?_
    | refine And.intro ?_ ?_
    | intro _
theorem r0gtf {al mod : LD} {rl rh lo hi wr : Int} (hm : (decide (5 < (Int.ofNat mod.len))) = false) (ha : (decide (5 < (Int.ofNat al.len))) = false) (hx : (decide ((max lo hi) < (min lo hi))) = false) (h1 : (decide ((wr % 3) = 1)) = false) (h2 : (decide ((wr % 3) = 2)) = false) (h3 : (decide (0 < (wr % 3))) = false) (hr : (decide (rh < rl)) = false) (hal : (decide (0 < (Int.ofNat al.len))) = true) : T3w0gtf al false true rl rh mod lo hi wr q52 q85 q79 q12 q13 qq24 qq94 qq135 qq3 := by
  refine Eq.mpr (e3w0gtf ..) ?_
  repeat' first
    | exact rfl
    | exact consNe
    | refine And.intro (by first | rfl | assumption) ?_
    | refine u3 (by assumption) (fun mod' hn hl => ?_) fun _ => ?_
    | refine u135 hn hl noP_n fun a c p' w' hp => ?_
    | refine u52f hp ?_
    | refine u52g hp (by assumption) fun a c p' hp => ?_
    | refine u79 hp fun a c p' hp => ?_
    | refine u94 hn hl fun a c w' => ?_
    | refine u85f ?_
    | refine u85g (by assumption) fun a c => ?_
    | refine u24n ?_
    | refine u24l ?_
    | refine u12 (by first | exact .f _ _ _ _ | exact .t _ _ _ _ _ _ _ _ _ _ _ _ _ _ _ _ _ _ hp noP_n) ?_
    | refine u13 (by first | exact .n | exact .e _ _ | exact .l _ _ _ _ _ _) ?_
    | refine And.intro ?_ ?_
    | intro _
theorem r0gft {al mod : LD} {rl rh lo hi wr : Int} (hm : (decide (5 < (Int.ofNat mod.len))) = false) (ha : (decide (5 < (Int.ofNat al.len))) = false) (hx : (decide ((max lo hi) < (min lo hi))) = false) (h1 : (decide ((wr % 3) = 1)) = false) (h2 : (decide ((wr % 3) = 2)) = false) (h3 : (decide (0 < (wr % 3))) = false) (hr : (decide (rh < rl)) = false) (hal : (decide (0 < (Int.ofNat al.len))) = false) : T3w0gft al true true rl rh mod lo hi wr q52 q85 q79 q12 q13 qq24 qq94 qq135 qq3 := by
  refine Eq.mpr (e3w0gft ..) ?_
  repeat' first
    | exact rfl
    | exact consNe
    | refine And.intro (by first | rfl | assumption) ?_
    | refine u3 (by assumption) (fun mod' hn hl => ?_) fun _ => ?_
    | refine u135 hn hl noP_n fun a c p' w' hp => ?_
    | refine u52f hp ?_
    | refine u52g hp (by assumption) fun a c p' hp => ?_
    | refine u79 hp fun a c p' hp => ?_
    | refine u94 hn hl fun a c w' => ?_
    | refine u85f ?_
    | refine u85g (by assumption) fun a c => ?_
    | refine u24n ?_
    | refine u24l ?_
    | refine u12 (by first | exact .f _ _ _ _ | exact .t _ _ _ _ _ _ _ _ _ _ _ _ _ _ _ _ _ _ hp noP_n) ?_
    | refine u13 (by first | exact .n | exact .e _ _ | exact .l _ _ _ _ _ _) ?_
    | refine And.intro ?_ ?_
    | intro _
theorem r0gff {al mod : LD} {rl rh lo hi wr : Int} (hm : (decide (5 < (Int.ofNat mod.len))) = false) (ha : (decide (5 < (Int.ofNat al.len))) = false) (hx : (decide ((max lo hi) < (min lo hi))) = false) (h1 : (decide ((wr % 3) = 1)) = false) (h2 : (decide ((wr % 3) = 2)) = false) (h3 : (decide (0 < (wr % 3))) = false) (hr : (decide (rh < rl)) = false) (hal : (decide (0 < (Int.ofNat al.len))) = false) : T3w0gff al false true rl rh mod lo hi wr q52 q85 q79 q12 q13 qq24 qq94 qq135 qq3 := by
  refine Eq.mpr (e3w0gff ..) ?_
  repeat' first
    | exact rfl
    | exact consNe
    | refine And.intro (by first | rfl | assumption) ?_
    | refine u3 (by assumption) (fun mod' hn hl => ?_) fun _ => ?_
    | refine u135 hn hl noP_n fun a c p' w' hp => ?_
    | refine u52f hp ?_
    | refine u52g hp (by assumption) fun a c p' hp => ?_
    | refine u79 hp fun a c p' hp => ?_
    | refine u94 hn hl fun a c w' => ?_
    | refine u85f ?_
    | refine u85g (by assumption) fun a c => ?_
    | refine u24n ?_
    | refine u24l ?_
    | refine u12 (by first | exact .f _ _ _ _ | exact .t _ _ _ _ _ _ _ _ _ _ _ _ _ _ _ _ _ _ hp noP_n) ?_
    | refine u13 (by first | exact .n | exact .e _ _ | exact .l _ _ _ _ _ _) ?_
    | refine And.intro ?_ ?_
    | intro _
theorem r1f {al mod : LD} {rl rh lo hi wr : Int} {en : Bool} (hm : (decide (5 < (Int.ofNat mod.len))) = false) (ha : (decide (5 < (Int.ofNat al.len))) = false) (hx : (decide ((max lo hi) < (min lo hi))) = false) (h1 : (decide ((wr % 3) = 1)) = true) (h2 : (decide ((wr % 3) = 2)) = false) (h3 : (decide (0 < (wr % 3))) = true) : T3w1f al en false rl rh mod lo hi wr q52 q85 q79 q12 q13 qq24 qq94 qq135 qq3 := by
  refine Eq.mpr (e3w1f ..) ?_
  repeat' first
    | exact rfl
    | exact consNe
    | refine And.intro (by first | rfl | assumption) ?_
    | refine u3 (by assumption) (fun mod' hn hl => ?_) fun _ => ?_
    | refine u135 hn hl noP_n fun a c p' w' hp => ?_
    | refine u52f hp ?_
    | refine u52g hp (by assumption) fun a c p' hp => ?_
    | refine u79 hp fun a c p' hp => ?_
    | refine u94 hn hl fun a c w' => ?_
    | refine u85f ?_
    | refine u85g (by assumption) fun a c => ?_
    | refine u24n ?_
    | refine u24l ?_
    | refine u12 (by first | exact .f _ _ _ _ | exact .t _ _ _ _ _ _ _ _ _ _ _ _ _ _ _ _ _ _ hp noP_n) ?_
    | refine u13 (by first | exact .n | exact .e _ _ | exact .l _ _ _ _ _ _) ?_
    | refine And.intro ?_ ?_
    | intro _
theorem r1n {al mod : LD} {rl rh lo hi wr : Int} {en : Bool} (hm : (decide (5 < (Int.ofNat mod.len))) = false) (ha : (decide (5 < (Int.ofNat al.len))) = false) (hx : (decide ((max lo hi) < (min lo hi))) = false) (h1 : (decide ((wr % 3) = 1)) = true) (h2 : (decide ((wr % 3) = 2)) = false) (h3 : (decide (0 < (wr % 3))) = true) (hr : (decide (rh < rl)) = true) : T3w1n al en true rl rh mod lo hi wr q52 q85 q79 q12 q13 qq24 qq94 qq135 qq3 := by
  refine Eq.mpr (e3w1n ..) ?_
  repeat' first
    | exact rfl
    | exact consNe
    | refine And.intro (by first | rfl | assumption) ?_
    | refine u3 (by assumption) (fun mod' hn hl => ?_) fun _ => ?_
    | refine u135 hn hl noP_n fun a c p' w' hp => ?_
    | refine u52f hp ?_
    | refine u52g hp (by assumption) fun a c p' hp => ?_
    | refine u79 hp fun a c p' hp => ?_
    | refine u94 hn hl fun a c w' => ?_
    | refine u85f ?_
    | refine u85g (by assumption) fun a c => ?_
    | refine u24n ?_
    | refine u24l ?_
    | refine u12 (by first | exact .f _ _ _ _ | exact .t _ _ _ _ _ _ _ _ _ _ _ _ _ _ _ _ _ _ hp noP_n) ?_
    | refine u13 (by first | exact .n | exact .e _ _ | exact .l _ _ _ _ _ _) ?_
    | refine And.intro ?_ ?_
    | intro _
theorem r1g {al mod : LD} {rl rh lo hi wr : Int} {en : Bool} (hm : (decide (5 < (Int.ofNat mod.len))) = false) (ha : (decide (5 < (Int.ofNat al.len))) = false) (hx : (decide ((max lo hi) < (min lo hi))) = false) (h1 : (decide ((wr % 3) = 1)) = true) (h2 : (decide ((wr % 3) = 2)) = false) (h3 : (decide (0 < (wr % 3))) = true) (hr : (decide (rh < rl)) = false) : T3w1g al en true rl rh mod lo hi wr q52 q85 q79 q12 q13 qq24 qq94 qq135 qq3 := by
  refine Eq.mpr (e3w1g ..) ?_
  repeat' first
    | exact rfl
    | exact consNe
    | refine And.intro (by first | rfl | assumption) ?_
    | refine u3 (by assumption) (fun mod' hn hl => ?_) fun _ => ?_
    | refine u135 hn hl noP_n fun a c p' w' hp => ?_
    | refine u52f hp ?_
    | refine u52g hp (by assumption) fun a c p' hp => ?_
    | refine u79 hp fun a c p' hp => ?_
    | refine u94 hn hl fun a c w' => ?_
    | refine u85f ?_
    | refine u85g (by assumption) fun a c => ?_
    | refine u24n ?_
    | refine u24l ?_
    | refine u12 (by first | exact .f _ _ _ _ | exact .t _ _ _ _ _ _ _ _ _ _ _ _ _ _ _ _ _ _ hp noP_n) ?_
    | refine u13 (by first | exact .n | exact .e _ _ | exact .l _ _ _ _ _ _) ?_
    | refine And.intro ?_ ?_
    | intro _
theorem r2f {al mod : LD} {rl rh lo hi wr : Int} {en : Bool} (hm : (decide (5 < (Int.ofNat mod.len))) = false) (ha : (decide (5 < (Int.ofNat al.len))) = false) (hx : (decide ((max lo hi) < (min lo hi))) = false) (h1 : (decide ((wr % 3) = 1)) = false) (h2 : (decide ((wr % 3) = 2)) = true) (h3 : (decide (0 < (wr % 3))) = true) : T3w2f al en false rl rh mod lo hi wr q52 q85 q79 q12 q13 qq24 qq94 qq135 qq3 := by
  refine Eq.mpr (e3w2f ..) ?_
  repeat' first
    | exact rfl
    | exact consNe
    | refine And.intro (by first | rfl | assumption) ?_
    | refine u3 (by assumption) (fun mod' hn hl => ?_) fun _ => ?_
    | refine u135 hn hl noP_n fun a c p' w' hp => ?_
    | refine u52f hp ?_
    | refine u52g hp (by assumption) fun a c p' hp => ?_
    | refine u79 hp fun a c p' hp => ?_
    | refine u94 hn hl fun a c w' => ?_
    | refine u85f ?_
    | refine u85g (by assumption) fun a c => ?_
    | refine u24n ?_
    | refine u24l ?_
    | refine u12 (by first | exact .f _ _ _ _ | exact .t _ _ _ _ _ _ _ _ _ _ _ _ _ _ _ _ _ _ hp noP_n) ?_
    | refine u13 (by first | exact .n | exact .e _ _ | exact .l _ _ _ _ _ _) ?_
    | refine And.intro ?_ ?_
    | intro _
theorem r2n {al mod : LD} {rl rh lo hi wr : Int} {en : Bool} (hm : (decide (5 < (Int.ofNat mod.len))) = false) (ha : (decide (5 < (Int.ofNat al.len))) = false) (hx : (decide ((max lo hi) < (min lo hi))) = false) (h1 : (decide ((wr % 3) = 1)) = false) (h2 : (decide ((wr % 3) = 2)) = true) (h3 : (decide (0 < (wr % 3))) = true) (hr : (decide (rh < rl)) = true) : T3w2n al en true rl rh mod lo hi wr q52 q85 q79 q12 q13 qq24 qq94 qq135 qq3 := by
  refine Eq.mpr (e3w2n ..) ?_
  repeat' first
    | exact rfl
    | exact consNe
    | refine And.intro (by first | rfl | assumption) ?_
    | refine u3 (by assumption) (fun mod' hn hl => ?_) fun _ => ?_
    | refine u135 hn hl noP_n fun a c p' w' hp => ?_
    | refine u52f hp ?_
    | refine u52g hp (by assumption) fun a c p' hp => ?_
    | refine u79 hp fun a c p' hp => ?_
    | refine u94 hn hl fun a c w' => ?_
    | refine u85f ?_
    | refine u85g (by assumption) fun a c => ?_
    | refine u24n ?_
    | refine u24l ?_
    | refine u12 (by first | exact .f _ _ _ _ | exact .t _ _ _ _ _ _ _ _ _ _ _ _ _ _ _ _ _ _ hp noP_n) ?_
    | refine u13 (by first | exact .n | exact .e _ _ | exact .l _ _ _ _ _ _) ?_
    | refine And.intro ?_ ?_
    | intro _
theorem r2g {al mod : LD} {rl rh lo hi wr : Int} {en : Bool} (hm : (decide (5 < (Int.ofNat mod.len))) = false) (ha : (decide (5 < (Int.ofNat al.len))) = false) (hx : (decide ((max lo hi) < (min lo hi))) = false) (h1 : (decide ((wr % 3) = 1)) = false) (h2 : (decide ((wr % 3) = 2)) = true) (h3 : (decide (0 < (wr % 3))) = true) (hr : (decide (rh < rl)) = false) : T3w2g al en true rl rh mod lo hi wr q52 q85 q79 q12 q13 qq24 qq94 qq135 qq3 := by
  refine Eq.mpr (e3w2g ..) ?_
  repeat' first
    | exact rfl
    | exact consNe
    | refine And.intro (by first | rfl | assumption) ?_
    | refine u3 (by assumption) (fun mod' hn hl => ?_) fun _ => ?_
    | refine u135 hn hl noP_n fun a c p' w' hp => ?_
    | refine u52f hp ?_
    | refine u52g hp (by assumption) fun a c p' hp => ?_
    | refine u79 hp fun a c p' hp => ?_
    | refine u94 hn hl fun a c w' => ?_
    | refine u85f ?_
    | refine u85g (by assumption) fun a c => ?_
    | refine u24n ?_
    | refine u24l ?_
    | refine u12 (by first | exact .f _ _ _ _ | exact .t _ _ _ _ _ _ _ _ _ _ _ _ _ _ _ _ _ _ hp noP_n) ?_
    | refine u13 (by first | exact .n | exact .e _ _ | exact .l _ _ _ _ _ _) ?_
    | refine And.intro ?_ ?_
    | intro _
theorem ra {al mod : LD} {rl rh lo hi wr : Int} {en so : Bool} (hm : (decide (5 < (Int.ofNat mod.len))) = true) : T3wa al en so rl rh mod lo hi wr q52 q85 q79 q12 q13 qq24 qq94 qq135 qq3 := by
  refine Eq.mpr (e3wa ..) ?_
  repeat' first
    | exact rfl
    | exact consNe
    | refine And.intro (by first | rfl | assumption) ?_
    | refine u3 (by assumption) (fun mod' hn hl => ?_) fun _ => ?_
    | refine u135 hn hl noP_n fun a c p' w' hp => ?_
    | refine u52f hp ?_
    | refine u52g hp (by assumption) fun a c p' hp => ?_
    | refine u79 hp fun a c p' hp => ?_
    | refine u94 hn hl fun a c w' => ?_
    | refine u85f ?_
    | refine u85g (by assumption) fun a c => ?_
    | refine u24n ?_
    | refine u24l ?_
    | refine u12 (by first | exact .f _ _ _ _ | exact .t _ _ _ _ _ _ _ _ _ _ _ _ _ _ _ _ _ _ hp noP_n) ?_
    | refine u13 (by first | exact .n | exact .e _ _ | exact .l _ _ _ _ _ _) ?_
    | refine And.intro ?_ ?_
    | intro _
theorem rb {al mod : LD} {rl rh lo hi wr : Int} {en so : Bool} (hm : (decide (5 < (Int.ofNat mod.len))) = false) (ha : (decide (5 < (Int.ofNat al.len))) = true) : T3wb al en so rl rh mod lo hi wr q52 q85 q79 q12 q13 qq24 qq94 qq135 qq3 := by
  refine Eq.mpr (e3wb ..) ?_
  repeat' first
    | exact rfl
    | exact consNe
    | refine And.intro (by first | rfl | assumption) ?_
    | refine u3 (by assumption) (fun mod' hn hl => ?_) fun _ => ?_
    | refine u135 hn hl noP_n fun a c p' w' hp => ?_
    | refine u52f hp ?_
    | refine u52g hp (by assumption) fun a c p' hp => ?_
    | refine u79 hp fun a c p' hp => ?_
    | refine u94 hn hl fun a c w' => ?_
    | refine u85f ?_
    | refine u85g (by assumption) fun a c => ?_
    | refine u24n ?_
    | refine u24l ?_
    | refine u12 (by first | exact .f _ _ _ _ | exact .t _ _ _ _ _ _ _ _ _ _ _ _ _ _ _ _ _ _ hp noP_n) ?_
    | refine u13 (by first | exact .n | exact .e _ _ | exact .l _ _ _ _ _ _) ?_
    | refine And.intro ?_ ?_
    | intro _
end Go.Proofs.YtfaieigeojiiiaaGreat
