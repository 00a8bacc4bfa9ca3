/- Short texts of functions of the program, each with the proof that a call comes to it. No condition. -/
import Derived.Test.YtegjokkkdkaphaaGreatDoorNames
set_option linter.unusedVariables false
set_option linter.unusedSimpArgs false
namespace Go.Proofs.YtegjokkkdkaphaaGreatDoor
open Go Go.W
set_option maxRecDepth 100000
/- headgate lz.period -/
noncomputable abbrev lz_period_B : Code := (Tryz.f38.body).getD .skip
abbrev lz_period_l1 : Slots := [(0, .s)]
abbrev lz_period_l2 : Slots := [(0, .s), (3, .sl), (4, I)]
abbrev lz_period_l3 : Slots := [(0, .s), (3, .sl)]
def lz_period_2 (R : Int → World → Prop) (s_0 : Bs) (border_3 : Sl) : World → Prop :=
 ixa P t_sl_int (Sl.v border_3) (s_0.length : Int) fun (x2 : Addr) =>
 ld P t_int x2 I fun (x3 : Int) =>
 R (w64 ((s_0.length : Int) - x3))
abbrev lz_period_l4 : Slots := [(0, .s), (3, .sl), (4, I)]
abbrev lz_period_l5 : Slots := [(4, I), (5, I)]
abbrev lz_period_l6 : Slots := [(0, .s), (3, .sl)]
abbrev lz_period_l7 : Slots := [(0, .s), (3, .sl), (4, I), (5, I)]
abbrev lz_period_l8 : Slots := [(0, .s), (3, .sl), (4, I), (5, I)]
def lz_period_7 (c1 : (Int × Int × Unit) → (Bs × Sl × Unit) → World → Prop) (R : Int → World → Prop) (s_0 : Bs) (border_3 : Sl) (k_4 : Int) (i_5 : Int) : World → Prop :=
 c1 (k_4, w64 (i_5 + 1), ()) (s_0, border_3, ())
abbrev lz_period_l9 : Slots := [(0, .s), (3, .sl), (4, I), (5, I)]
abbrev lz_period_l10 : Slots := [(4, I)]
abbrev lz_period_l11 : Slots := [(0, .s), (3, .sl), (5, I)]
abbrev lz_period_l12 : Slots := [(0, .s), (3, .sl), (4, I), (5, I)]
abbrev lz_period_l13 : Slots := [(0, .s), (3, .sl), (4, I), (5, I)]
def lz_period_11 (c1 : (Int × Int × Unit) → (Bs × Sl × Unit) → World → Prop) (R : Int → World → Prop) (s_0 : Bs) (border_3 : Sl) (k_4 : Int) (i_5 : Int) : World → Prop :=
 ixa P t_sl_int (Sl.v border_3) (w64 (i_5 + 1)) fun (x6 : Addr) =>
 sto P t_int x6 I k_4 <|
 lz_period_7 c1 R s_0 border_3 k_4 i_5
def lz_period_10 (c1 : (Int × Int × Unit) → (Bs × Sl × Unit) → World → Prop) (R : Int → World → Prop) (s_0 : Bs) (border_3 : Sl) (k_4 : Int) (i_5 : Int) : World → Prop :=
 mdraw <|
 ixs P t_string s_0 i_5 fun (x4 : Int) =>
 ixs P t_string s_0 k_4 fun (x5 : Int) =>
 mif (x4 == x5)
 (lz_period_11 c1 R s_0 border_3 (w64 (k_4 + 1)) i_5)
 (lz_period_11 c1 R s_0 border_3 k_4 i_5)
def lz_period_12 (c2 : (Int × Unit) → (Bs × Sl × Int × Unit) → World → Prop) (c1 : (Int × Int × Unit) → (Bs × Sl × Unit) → World → Prop) (R : Int → World → Prop) (k_4 : Int) (s_0 : Bs) (border_3 : Sl) (i_5 : Int) : World → Prop :=
 mdraw <|
 mif (decide (k_4 > 0))
 (ixs P t_string s_0 i_5 fun (x7 : Int) =>
 ixs P t_string s_0 k_4 fun (x8 : Int) =>
 mif (x7 != x8)
 (ixa P t_sl_int (Sl.v border_3) k_4 fun (x9 : Addr) =>
 ld P t_int x9 I fun (x10 : Int) =>
 c2 (x10, ()) (s_0, border_3, i_5, ()))
 (lz_period_10 c1 R s_0 border_3 k_4 i_5))
 (lz_period_10 c1 R s_0 border_3 k_4 i_5)
def lz_period_9 (c1 : (Int × Int × Unit) → (Bs × Sl × Unit) → World → Prop) (R : Int → World → Prop) (k_4 : Int) (s_0 : Bs) (border_3 : Sl) (i_5 : Int) : World → Prop :=
 W.Loop (s_0, border_3, i_5, ()) (fun (c2 : (Int × Unit) → (Bs × Sl × Int × Unit) → World → Prop) (s : Int × Unit) => lz_period_12 c2 c1 R s.1 s_0 border_3 i_5) (k_4, ())
def lz_period_8 (c1 : (Int × Int × Unit) → (Bs × Sl × Unit) → World → Prop) (R : Int → World → Prop) (s_0 : Bs) (border_3 : Sl) (k_4 : Int) (i_5 : Int) : World → Prop :=
 lz_period_9 c1 R k_4 s_0 border_3 i_5
def lz_period_6 (c1 : (Int × Int × Unit) → (Bs × Sl × Unit) → World → Prop) (R : Int → World → Prop) (s_0 : Bs) (border_3 : Sl) (k_4 : Int) (i_5 : Int) : World → Prop :=
 lz_period_8 c1 R s_0 border_3 k_4 i_5
def lz_period_5 (c1 : (Int × Int × Unit) → (Bs × Sl × Unit) → World → Prop) (R : Int → World → Prop) (k_4 : Int) (i_5 : Int) (s_0 : Bs) (border_3 : Sl) : World → Prop :=
 mif (decide (i_5 < (s_0.length : Int)))
 (lz_period_6 c1 R s_0 border_3 k_4 i_5)
 (lz_period_2 R s_0 border_3)
def lz_period_4 (R : Int → World → Prop) (k_4 : Int) (i_5 : Int) (s_0 : Bs) (border_3 : Sl) : World → Prop :=
 W.Loop (s_0, border_3, ()) (fun (c1 : (Int × Int × Unit) → (Bs × Sl × Unit) → World → Prop) (s : Int × Int × Unit) => lz_period_5 c1 R s.1 s.2.1 s_0 border_3) (k_4, i_5, ())
def lz_period_3 (R : Int → World → Prop) (s_0 : Bs) (border_3 : Sl) (k_4 : Int) : World → Prop :=
 lz_period_4 R k_4 1 s_0 border_3
def lz_period_1 (R : Int → World → Prop) (s_0 : Bs) (border_3 : Sl) (k_4 : Int) : World → Prop :=
 lz_period_3 R s_0 border_3 k_4
def lz_period_0 (R : Int → World → Prop) (s_0 : Bs) : World → Prop :=
 mks P t_sl_int (w64 ((s_0.length : Int) + 1)) (w64 ((s_0.length : Int) + 1)) fun (x1 : Sl) =>
 lz_period_1 R s_0 x1 0
theorem lz_period_2_ok (R : Int → World → Prop) (s_0 : Bs) (border_3 : Sl) (w : World) (h : lz_period_2 R s_0 border_3 w) : WPC P 53 [] (Code.at lz_period_B [.snd, .snd, .snd, .snd]) (topQ P [.tmp 2] I R) (mkE 53 lz_period_l3 (s_0, border_3, ())) w :=
  pc_end (T := lz_period_2 R s_0 border_3 w) hmix (by kernel_rfl) h
theorem lz_period_7_ok (c1 : (Int × Int × Unit) → (Bs × Sl × Unit) → World → Prop) (R : Int → World → Prop) (s_0 : Bs) (border_3 : Sl) (k_4 : Int) (i_5 : Int) (w : World) (h : lz_period_7 c1 R s_0 border_3 k_4 i_5 w) : WPC P 53 [] (Code.at lz_period_B [.snd, .snd, .snd, .fst, .snd, .blk, .blk, .snd, .snd]) (thenQ (fun env => getE env lz_period_l5 fun (s : Int × Int × Unit) => getE env lz_period_l6 (c1 s)) (blockQ 0 ((thenQ (fun env => getE env lz_period_l3 fun (x : Bs × Sl × Unit) => lz_period_2 R x.1 x.2.1) (topQ P [.tmp 2] I R)) .normal) (thenQ (fun env => getE env lz_period_l3 fun (x : Bs × Sl × Unit) => lz_period_2 R x.1 x.2.1) (topQ P [.tmp 2] I R)))) (mkE 53 lz_period_l8 (s_0, border_3, k_4, i_5, ())) w :=
  pc_end (T := lz_period_7 c1 R s_0 border_3 k_4 i_5 w) hmix (by kernel_rfl) h
theorem lz_period_11_ok (c1 : (Int × Int × Unit) → (Bs × Sl × Unit) → World → Prop) (R : Int → World → Prop) (s_0 : Bs) (border_3 : Sl) (k_4 : Int) (i_5 : Int) (w : World) (h : lz_period_11 c1 R s_0 border_3 k_4 i_5 w) : WPC P 53 [] (Code.at lz_period_B [.snd, .snd, .snd, .fst, .snd, .blk, .blk, .snd, .fst, .blk, .snd, .snd]) (blockQ 1 ((thenQ (fun env => getE env lz_period_l8 fun (x : Bs × Sl × Int × Int × Unit) => lz_period_7 c1 R x.1 x.2.1 x.2.2.1 x.2.2.2.1) (thenQ (fun env => getE env lz_period_l5 fun (s : Int × Int × Unit) => getE env lz_period_l6 (c1 s)) (blockQ 0 ((thenQ (fun env => getE env lz_period_l3 fun (x : Bs × Sl × Unit) => lz_period_2 R x.1 x.2.1) (topQ P [.tmp 2] I R)) .normal) (thenQ (fun env => getE env lz_period_l3 fun (x : Bs × Sl × Unit) => lz_period_2 R x.1 x.2.1) (topQ P [.tmp 2] I R))))) .normal) (thenQ (fun env => getE env lz_period_l8 fun (x : Bs × Sl × Int × Int × Unit) => lz_period_7 c1 R x.1 x.2.1 x.2.2.1 x.2.2.2.1) (thenQ (fun env => getE env lz_period_l5 fun (s : Int × Int × Unit) => getE env lz_period_l6 (c1 s)) (blockQ 0 ((thenQ (fun env => getE env lz_period_l3 fun (x : Bs × Sl × Unit) => lz_period_2 R x.1 x.2.1) (topQ P [.tmp 2] I R)) .normal) (thenQ (fun env => getE env lz_period_l3 fun (x : Bs × Sl × Unit) => lz_period_2 R x.1 x.2.1) (topQ P [.tmp 2] I R)))))) (mkE 53 lz_period_l13 (s_0, border_3, k_4, i_5, ())) w :=
  pc_end (T := lz_period_11 c1 R s_0 border_3 k_4 i_5 w) hmix (by kernel_rfl) h
theorem lz_period_10_ok (c1 : (Int × Int × Unit) → (Bs × Sl × Unit) → World → Prop) (R : Int → World → Prop) (s_0 : Bs) (border_3 : Sl) (k_4 : Int) (i_5 : Int) (w : World) (h : lz_period_10 c1 R s_0 border_3 k_4 i_5 w) : WPC P 53 [] (Code.at lz_period_B [.snd, .snd, .snd, .fst, .snd, .blk, .blk, .snd, .fst, .blk, .snd]) (blockQ 1 ((thenQ (fun env => getE env lz_period_l8 fun (x : Bs × Sl × Int × Int × Unit) => lz_period_7 c1 R x.1 x.2.1 x.2.2.1 x.2.2.2.1) (thenQ (fun env => getE env lz_period_l5 fun (s : Int × Int × Unit) => getE env lz_period_l6 (c1 s)) (blockQ 0 ((thenQ (fun env => getE env lz_period_l3 fun (x : Bs × Sl × Unit) => lz_period_2 R x.1 x.2.1) (topQ P [.tmp 2] I R)) .normal) (thenQ (fun env => getE env lz_period_l3 fun (x : Bs × Sl × Unit) => lz_period_2 R x.1 x.2.1) (topQ P [.tmp 2] I R))))) .normal) (thenQ (fun env => getE env lz_period_l8 fun (x : Bs × Sl × Int × Int × Unit) => lz_period_7 c1 R x.1 x.2.1 x.2.2.1 x.2.2.2.1) (thenQ (fun env => getE env lz_period_l5 fun (s : Int × Int × Unit) => getE env lz_period_l6 (c1 s)) (blockQ 0 ((thenQ (fun env => getE env lz_period_l3 fun (x : Bs × Sl × Unit) => lz_period_2 R x.1 x.2.1) (topQ P [.tmp 2] I R)) .normal) (thenQ (fun env => getE env lz_period_l3 fun (x : Bs × Sl × Unit) => lz_period_2 R x.1 x.2.1) (topQ P [.tmp 2] I R)))))) (mkE 53 lz_period_l12 (s_0, border_3, k_4, i_5, ())) w :=
  pc_cut (T := lz_period_10 c1 R s_0 border_3 k_4 i_5 w) (l := lz_period_l13) (F := fun (x : Bs × Sl × Int × Int × Unit) => lz_period_11 c1 R x.1 x.2.1 x.2.2.1 x.2.2.2.1) hmix 1 (mkE_len ..) (by kernel_rfl) (fun x w h => lz_period_11_ok c1 R x.1 x.2.1 x.2.2.1 x.2.2.2.1 w h) (by kernel_rfl) h
theorem lz_period_12_ok (c2 : (Int × Unit) → (Bs × Sl × Int × Unit) → World → Prop) (c1 : (Int × Int × Unit) → (Bs × Sl × Unit) → World → Prop) (R : Int → World → Prop) (k_4 : Int) (s_0 : Bs) (border_3 : Sl) (i_5 : Int) (w : World) (h : lz_period_12 c2 c1 R k_4 s_0 border_3 i_5 w) : WPC P 53 [] (Code.at lz_period_B [.snd, .snd, .snd, .fst, .snd, .blk, .blk, .snd, .fst, .blk, .fst, .blk, .blk]) (thenQ (fun env => getE env lz_period_l10 fun (s : Int × Unit) => getE env lz_period_l11 (c2 s)) (blockQ 2 (fun env => getE env lz_period_l12 fun (x : Bs × Sl × Int × Int × Unit) => lz_period_10 c1 R x.1 x.2.1 x.2.2.1 x.2.2.2.1) (blockQ 1 ((thenQ (fun env => getE env lz_period_l8 fun (x : Bs × Sl × Int × Int × Unit) => lz_period_7 c1 R x.1 x.2.1 x.2.2.1 x.2.2.2.1) (thenQ (fun env => getE env lz_period_l5 fun (s : Int × Int × Unit) => getE env lz_period_l6 (c1 s)) (blockQ 0 ((thenQ (fun env => getE env lz_period_l3 fun (x : Bs × Sl × Unit) => lz_period_2 R x.1 x.2.1) (topQ P [.tmp 2] I R)) .normal) (thenQ (fun env => getE env lz_period_l3 fun (x : Bs × Sl × Unit) => lz_period_2 R x.1 x.2.1) (topQ P [.tmp 2] I R))))) .normal) (thenQ (fun env => getE env lz_period_l8 fun (x : Bs × Sl × Int × Int × Unit) => lz_period_7 c1 R x.1 x.2.1 x.2.2.1 x.2.2.2.1) (thenQ (fun env => getE env lz_period_l5 fun (s : Int × Int × Unit) => getE env lz_period_l6 (c1 s)) (blockQ 0 ((thenQ (fun env => getE env lz_period_l3 fun (x : Bs × Sl × Unit) => lz_period_2 R x.1 x.2.1) (topQ P [.tmp 2] I R)) .normal) (thenQ (fun env => getE env lz_period_l3 fun (x : Bs × Sl × Unit) => lz_period_2 R x.1 x.2.1) (topQ P [.tmp 2] I R)))))))) (mkE2 53 lz_period_l10 lz_period_l11 (k_4, ()) (s_0, border_3, i_5, ())) w :=
  pc_end (T := lz_period_12 c2 c1 R k_4 s_0 border_3 i_5 w) hmix (by kernel_rfl) h
theorem lz_period_9_ok (c1 : (Int × Int × Unit) → (Bs × Sl × Unit) → World → Prop) (R : Int → World → Prop) (k_4 : Int) (s_0 : Bs) (border_3 : Sl) (i_5 : Int) (w : World) (h : lz_period_9 c1 R k_4 s_0 border_3 i_5 w) : WPC P 53 [] (Code.at lz_period_B [.snd, .snd, .snd, .fst, .snd, .blk, .blk, .snd, .fst, .blk]) (blockQ 1 ((thenQ (fun env => getE env lz_period_l8 fun (x : Bs × Sl × Int × Int × Unit) => lz_period_7 c1 R x.1 x.2.1 x.2.2.1 x.2.2.2.1) (thenQ (fun env => getE env lz_period_l5 fun (s : Int × Int × Unit) => getE env lz_period_l6 (c1 s)) (blockQ 0 ((thenQ (fun env => getE env lz_period_l3 fun (x : Bs × Sl × Unit) => lz_period_2 R x.1 x.2.1) (topQ P [.tmp 2] I R)) .normal) (thenQ (fun env => getE env lz_period_l3 fun (x : Bs × Sl × Unit) => lz_period_2 R x.1 x.2.1) (topQ P [.tmp 2] I R))))) .normal) (thenQ (fun env => getE env lz_period_l8 fun (x : Bs × Sl × Int × Int × Unit) => lz_period_7 c1 R x.1 x.2.1 x.2.2.1 x.2.2.2.1) (thenQ (fun env => getE env lz_period_l5 fun (s : Int × Int × Unit) => getE env lz_period_l6 (c1 s)) (blockQ 0 ((thenQ (fun env => getE env lz_period_l3 fun (x : Bs × Sl × Unit) => lz_period_2 R x.1 x.2.1) (topQ P [.tmp 2] I R)) .normal) (thenQ (fun env => getE env lz_period_l3 fun (x : Bs × Sl × Unit) => lz_period_2 R x.1 x.2.1) (topQ P [.tmp 2] I R)))))) (mkE2 53 lz_period_l10 lz_period_l11 (k_4, ()) (s_0, border_3, i_5, ())) w :=
  pc_loopR (l := lz_period_l10) (l' := lz_period_l11) (body := fun (c2 : (Int × Unit) → (Bs × Sl × Int × Unit) → World → Prop) (s : Int × Unit) => lz_period_12 c2 c1 R s.1 s_0 border_3 i_5) (lr := lz_period_l12) (FR := fun (x : Bs × Sl × Int × Int × Unit) => lz_period_10 c1 R x.1 x.2.1 x.2.2.1 x.2.2.2.1) (id := 2) (b := (Code.at lz_period_B [.snd, .snd, .snd, .fst, .snd, .blk, .blk, .snd, .fst, .blk, .fst, .blk, .blk])) (rest := (Code.at lz_period_B [.snd, .snd, .snd, .fst, .snd, .blk, .blk, .snd, .fst, .blk, .snd])) (by kernel_rfl) (fun c2 s w h => lz_period_12_ok c2 c1 R s.1 s_0 border_3 i_5 w h) (fun x w h => lz_period_10_ok c1 R x.1 x.2.1 x.2.2.1 x.2.2.2.1 w h) h
theorem lz_period_8_ok (c1 : (Int × Int × Unit) → (Bs × Sl × Unit) → World → Prop) (R : Int → World → Prop) (s_0 : Bs) (border_3 : Sl) (k_4 : Int) (i_5 : Int) (w : World) (h : lz_period_8 c1 R s_0 border_3 k_4 i_5 w) : WPC P 53 [] (Code.at lz_period_B [.snd, .snd, .snd, .fst, .snd, .blk, .blk, .snd, .fst, .blk]) (blockQ 1 ((thenQ (fun env => getE env lz_period_l8 fun (x : Bs × Sl × Int × Int × Unit) => lz_period_7 c1 R x.1 x.2.1 x.2.2.1 x.2.2.2.1) (thenQ (fun env => getE env lz_period_l5 fun (s : Int × Int × Unit) => getE env lz_period_l6 (c1 s)) (blockQ 0 ((thenQ (fun env => getE env lz_period_l3 fun (x : Bs × Sl × Unit) => lz_period_2 R x.1 x.2.1) (topQ P [.tmp 2] I R)) .normal) (thenQ (fun env => getE env lz_period_l3 fun (x : Bs × Sl × Unit) => lz_period_2 R x.1 x.2.1) (topQ P [.tmp 2] I R))))) .normal) (thenQ (fun env => getE env lz_period_l8 fun (x : Bs × Sl × Int × Int × Unit) => lz_period_7 c1 R x.1 x.2.1 x.2.2.1 x.2.2.2.1) (thenQ (fun env => getE env lz_period_l5 fun (s : Int × Int × Unit) => getE env lz_period_l6 (c1 s)) (blockQ 0 ((thenQ (fun env => getE env lz_period_l3 fun (x : Bs × Sl × Unit) => lz_period_2 R x.1 x.2.1) (topQ P [.tmp 2] I R)) .normal) (thenQ (fun env => getE env lz_period_l3 fun (x : Bs × Sl × Unit) => lz_period_2 R x.1 x.2.1) (topQ P [.tmp 2] I R)))))) (mkE 53 lz_period_l9 (s_0, border_3, k_4, i_5, ())) w :=
  pc_cut2 (T := lz_period_8 c1 R s_0 border_3 k_4 i_5 w) (l := lz_period_l10) (l' := lz_period_l11) (F := fun (x : Int × Unit) (y : Bs × Sl × Int × Unit) => lz_period_9 c1 R x.1 y.1 y.2.1 y.2.2.1) hmix 0 (mkE_len ..) (by kernel_rfl) (fun x y w h => lz_period_9_ok c1 R x.1 y.1 y.2.1 y.2.2.1 w h) (by kernel_rfl) h
theorem lz_period_6_ok (c1 : (Int × Int × Unit) → (Bs × Sl × Unit) → World → Prop) (R : Int → World → Prop) (s_0 : Bs) (border_3 : Sl) (k_4 : Int) (i_5 : Int) (w : World) (h : lz_period_6 c1 R s_0 border_3 k_4 i_5 w) : WPC P 53 [] (Code.at lz_period_B [.snd, .snd, .snd, .fst, .snd, .blk, .blk, .snd]) (thenQ (fun env => getE env lz_period_l5 fun (s : Int × Int × Unit) => getE env lz_period_l6 (c1 s)) (blockQ 0 ((thenQ (fun env => getE env lz_period_l3 fun (x : Bs × Sl × Unit) => lz_period_2 R x.1 x.2.1) (topQ P [.tmp 2] I R)) .normal) (thenQ (fun env => getE env lz_period_l3 fun (x : Bs × Sl × Unit) => lz_period_2 R x.1 x.2.1) (topQ P [.tmp 2] I R)))) (mkE 53 lz_period_l7 (s_0, border_3, k_4, i_5, ())) w :=
  pc_seq (l := lz_period_l8) (F := fun (x : Bs × Sl × Int × Int × Unit) => lz_period_7 c1 R x.1 x.2.1 x.2.2.1 x.2.2.2.1) (a := (Code.at lz_period_B [.snd, .snd, .snd, .fst, .snd, .blk, .blk, .snd, .fst])) (b := (Code.at lz_period_B [.snd, .snd, .snd, .fst, .snd, .blk, .blk, .snd, .snd])) (by kernel_rfl) (pc_block (c := (Code.at lz_period_B [.snd, .snd, .snd, .fst, .snd, .blk, .blk, .snd, .fst, .blk])) (id := 1) (by kernel_rfl) (pc_cut (T := (lz_period_8 c1 R s_0 border_3 k_4 i_5) w) (l := lz_period_l9) (F := fun (x : Bs × Sl × Int × Int × Unit) => lz_period_8 c1 R x.1 x.2.1 x.2.2.1 x.2.2.2.1) (c := (Code.at lz_period_B [.snd, .snd, .snd, .fst, .snd, .blk, .blk, .snd, .fst, .blk])) hmix 0 (mkE_len ..) (by kernel_rfl) (fun x w h => lz_period_8_ok c1 R x.1 x.2.1 x.2.2.1 x.2.2.2.1 w h) (by kernel_rfl) h)) (fun x w h => lz_period_7_ok c1 R x.1 x.2.1 x.2.2.1 x.2.2.2.1 w h)
theorem lz_period_5_ok (c1 : (Int × Int × Unit) → (Bs × Sl × Unit) → World → Prop) (R : Int → World → Prop) (k_4 : Int) (i_5 : Int) (s_0 : Bs) (border_3 : Sl) (w : World) (h : lz_period_5 c1 R k_4 i_5 s_0 border_3 w) : WPC P 53 [] (Code.at lz_period_B [.snd, .snd, .snd, .fst, .snd, .blk, .blk]) (thenQ (fun env => getE env lz_period_l5 fun (s : Int × Int × Unit) => getE env lz_period_l6 (c1 s)) (blockQ 0 ((thenQ (fun env => getE env lz_period_l3 fun (x : Bs × Sl × Unit) => lz_period_2 R x.1 x.2.1) (topQ P [.tmp 2] I R)) .normal) (thenQ (fun env => getE env lz_period_l3 fun (x : Bs × Sl × Unit) => lz_period_2 R x.1 x.2.1) (topQ P [.tmp 2] I R)))) (mkE2 53 lz_period_l5 lz_period_l6 (k_4, i_5, ()) (s_0, border_3, ())) w :=
  pc_cut (T := lz_period_5 c1 R k_4 i_5 s_0 border_3 w) (l := lz_period_l7) (F := fun (x : Bs × Sl × Int × Int × Unit) => lz_period_6 c1 R x.1 x.2.1 x.2.2.1 x.2.2.2.1) hmix 1 (mkE2_len ..) (by kernel_rfl) (fun x w h => lz_period_6_ok c1 R x.1 x.2.1 x.2.2.1 x.2.2.2.1 w h) (by kernel_rfl) h
theorem lz_period_4_ok (R : Int → World → Prop) (k_4 : Int) (i_5 : Int) (s_0 : Bs) (border_3 : Sl) (w : World) (h : lz_period_4 R k_4 i_5 s_0 border_3 w) : WPC P 53 [] (Code.at lz_period_B [.snd, .snd, .snd, .fst, .snd]) (thenQ (fun env => getE env lz_period_l3 fun (x : Bs × Sl × Unit) => lz_period_2 R x.1 x.2.1) (topQ P [.tmp 2] I R)) (mkE2 53 lz_period_l5 lz_period_l6 (k_4, i_5, ()) (s_0, border_3, ())) w :=
  pc_loopE (l := lz_period_l5) (l' := lz_period_l6) (body := fun (c1 : (Int × Int × Unit) → (Bs × Sl × Unit) → World → Prop) (s : Int × Int × Unit) => lz_period_5 c1 R s.1 s.2.1 s_0 border_3) (id := 0) (b := (Code.at lz_period_B [.snd, .snd, .snd, .fst, .snd, .blk, .blk])) (by kernel_rfl) (fun c1 s w h => lz_period_5_ok c1 R s.1 s.2.1 s_0 border_3 w h) h
theorem lz_period_3_ok (R : Int → World → Prop) (s_0 : Bs) (border_3 : Sl) (k_4 : Int) (w : World) (h : lz_period_3 R s_0 border_3 k_4 w) : WPC P 53 [] (Code.at lz_period_B [.snd, .snd, .snd, .fst]) (thenQ (fun env => getE env lz_period_l3 fun (x : Bs × Sl × Unit) => lz_period_2 R x.1 x.2.1) (topQ P [.tmp 2] I R)) (mkE 53 lz_period_l4 (s_0, border_3, k_4, ())) w :=
  pc_cut2 (T := lz_period_3 R s_0 border_3 k_4 w) (l := lz_period_l5) (l' := lz_period_l6) (F := fun (x : Int × Int × Unit) (y : Bs × Sl × Unit) => lz_period_4 R x.1 x.2.1 y.1 y.2.1) hmix 1 (mkE_len ..) (by kernel_rfl) (fun x y w h => lz_period_4_ok R x.1 x.2.1 y.1 y.2.1 w h) (by kernel_rfl) h
theorem lz_period_1_ok (R : Int → World → Prop) (s_0 : Bs) (border_3 : Sl) (k_4 : Int) (w : World) (h : lz_period_1 R s_0 border_3 k_4 w) : WPC P 53 [] (Code.at lz_period_B [.snd, .snd, .snd]) (topQ P [.tmp 2] I R) (mkE 53 lz_period_l2 (s_0, border_3, k_4, ())) w :=
  pc_seq (l := lz_period_l3) (F := fun (x : Bs × Sl × Unit) => lz_period_2 R x.1 x.2.1) (a := (Code.at lz_period_B [.snd, .snd, .snd, .fst])) (b := (Code.at lz_period_B [.snd, .snd, .snd, .snd])) (by kernel_rfl) (pc_cut (T := (lz_period_3 R s_0 border_3 k_4) w) (l := lz_period_l4) (F := fun (x : Bs × Sl × Int × Unit) => lz_period_3 R x.1 x.2.1 x.2.2.1) (c := (Code.at lz_period_B [.snd, .snd, .snd, .fst])) hmix 0 (mkE_len ..) (by kernel_rfl) (fun x w h => lz_period_3_ok R x.1 x.2.1 x.2.2.1 w h) (by kernel_rfl) h) (fun x w h => lz_period_2_ok R x.1 x.2.1 w h)
theorem lz_period_0_ok (R : Int → World → Prop) (s_0 : Bs) (w : World) (h : lz_period_0 R s_0 w) : WPC P 53 [] (Code.at lz_period_B []) (topQ P [.tmp 2] I R) (mkE 53 lz_period_l1 (s_0, ())) w :=
  pc_cut (T := lz_period_0 R s_0 w) (l := lz_period_l2) (F := fun (x : Bs × Sl × Int × Unit) => lz_period_1 R x.1 x.2.1 x.2.2.1) hmix 3 (mkE_len ..) (by kernel_rfl) (fun x w h => lz_period_1_ok R x.1 x.2.1 x.2.2.1 w h) (by kernel_rfl) h
theorem lz_period_call (R : Int → World → Prop) (s_0 : Bs) (w : World) (h : lz_period_0 R s_0 w) : mcall P n_lz_period [(.string ⟨s_0.toArray⟩)] I R w :=
  pc_top (T := (lz_period_0 R s_0) w) (l := lz_period_l1) (F := fun (x : Bs × Unit) => lz_period_0 R x.1) (n := 53) (c := lz_period_B) Tryz.func38 rfl (by kernel_rfl) (by kernel_rfl) (by kernel_rfl) (fun x w h => lz_period_0_ok R x.1 w h) (by kernel_rfl) h
/- headgate lz.literal -/
noncomputable abbrev lz_literal_B : Code := (Tryz.f39.body).getD .skip
abbrev lz_literal_l1 : Slots := [(0, .p), (1, .s)]
def lz_literal_0 (R : Unit → World → Prop) (b_0 : Option Addr) (s_1 : Bs) : World → Prop :=
 mif (!(s_1 == []))
 (mcall P n_varint_Put [(.int .i64 (w64 (2 * (s_1.length : Int))))] .s fun (x1 : Bs) =>
 mcall P n_strings_Builder_WriteString [(.pointer b_0), (.string ⟨x1.toArray⟩)] (.tup [I, .v]) fun (x2 : Int × Value × Unit) =>
 mcall P n_strings_Builder_WriteString [(.pointer b_0), (.string ⟨s_1.toArray⟩)] (.tup [I, .v]) fun (x3 : Int × Value × Unit) =>
 R (()))
 (R (()))
theorem lz_literal_0_ok (R : Unit → World → Prop) (b_0 : Option Addr) (s_1 : Bs) (w : World) (h : lz_literal_0 R b_0 s_1 w) : WPC P 15 [] (Code.at lz_literal_B []) (topQ P [] (.tup []) R) (mkE 15 lz_literal_l1 (b_0, s_1, ())) w :=
  pc_end (T := lz_literal_0 R b_0 s_1 w) hmix (by kernel_rfl) h
theorem lz_literal_call (R : Unit → World → Prop) (b_0 : Option Addr) (s_1 : Bs) (w : World) (h : lz_literal_0 R b_0 s_1 w) : mcall P n_lz_literal [(.pointer b_0), (.string ⟨s_1.toArray⟩)] (.tup []) R w :=
  pc_top (T := (lz_literal_0 R b_0 s_1) w) (l := lz_literal_l1) (F := fun (x : Option Addr × Bs × Unit) => lz_literal_0 R x.1 x.2.1) (n := 15) (c := lz_literal_B) Tryz.func39 rfl (by kernel_rfl) (by kernel_rfl) (by kernel_rfl) (fun x w h => lz_literal_0_ok R x.1 x.2.1 w h) (by kernel_rfl) h
/- headgate lz.at -/
noncomputable abbrev lz_at_B : Code := (Tryz.f40.body).getD .skip
abbrev lz_at_l1 : Slots := [(0, .s), (1, I)]
def lz_at_0 (R : T_arr4_uint8 → World → Prop) (s_0 : Bs) (i_1 : Int) : World → Prop :=
 alo P t_arr4_uint8 fun a1 =>
 sls P t_string s_0 (some i_1) (some (w64 (i_1 + 4))) fun (x2 : Bs) =>
 mop P (convert t_string t_sl_uint8 (.string ⟨x2.toArray⟩)) .sl fun (x3 : Sl) =>
 mrd P (Instr.arrayAt t_arr4_uint8 (.slice x3.a x3.len x3.cap)) .p fun (x4 : Option Addr) =>
 mrd P (Instr.loadAt t_arr4_uint8 (.pointer x4)) k_arr4_uint8 fun (x5 : T_arr4_uint8) =>
 sto P t_arr4_uint8 a1 k_arr4_uint8 x5 <|
 ld P t_arr4_uint8 a1 k_arr4_uint8 fun (x6 : T_arr4_uint8) =>
 R x6
theorem lz_at_0_ok (R : T_arr4_uint8 → World → Prop) (s_0 : Bs) (i_1 : Int) (w : World) (h : lz_at_0 R s_0 i_1 w) : WPC P 13 [] (Code.at lz_at_B []) (topQ P [.cell 4 t_arr4_uint8] k_arr4_uint8 R) (mkE 13 lz_at_l1 (s_0, i_1, ())) w :=
  pc_end (T := lz_at_0 R s_0 i_1 w) hmix (by kernel_rfl) h
theorem lz_at_call (R : T_arr4_uint8 → World → Prop) (s_0 : Bs) (i_1 : Int) (w : World) (h : lz_at_0 R s_0 i_1 w) : mcall P n_lz_at [(.string ⟨s_0.toArray⟩), (.int .i64 i_1)] k_arr4_uint8 R w :=
  pc_top (T := (lz_at_0 R s_0 i_1) w) (l := lz_at_l1) (F := fun (x : Bs × Int × Unit) => lz_at_0 R x.1 x.2.1) (n := 13) (c := lz_at_B) Tryz.func40 rfl (by kernel_rfl) (by kernel_rfl) (by kernel_rfl) (fun x w h => lz_at_0_ok R x.1 x.2.1 w h) (by kernel_rfl) h
/- headgate lz.alike -/
noncomputable abbrev lz_alike_B : Code := (Tryz.f41.body).getD .skip
abbrev lz_alike_l1 : Slots := [(0, .s), (1, I), (2, I)]
abbrev lz_alike_l2 : Slots := [(7, I)]
abbrev lz_alike_l3 : Slots := [(0, .s), (1, I), (2, I)]
abbrev lz_alike_l4 : Slots := [(7, I)]
def lz_alike_2 (R : Int → World → Prop) (n_7 : Int) : World → Prop :=
 R n_7
def lz_alike_3 (c1 : (Int × Unit) → (Bs × Int × Int × Unit) → World → Prop) (R : Int → World → Prop) (n_7 : Int) (s_0 : Bs) (a_1 : Int) (b_2 : Int) : World → Prop :=
 mdraw <|
 mif (decide ((w64 (b_2 + n_7)) < (s_0.length : Int)))
 (ixs P t_string s_0 (w64 (a_1 + n_7)) fun (x1 : Int) =>
 ixs P t_string s_0 (w64 (b_2 + n_7)) fun (x2 : Int) =>
 mif (x1 == x2)
 (c1 (w64 (n_7 + 1), ()) (s_0, a_1, b_2, ()))
 (lz_alike_2 R n_7))
 (lz_alike_2 R n_7)
def lz_alike_1 (R : Int → World → Prop) (n_7 : Int) (s_0 : Bs) (a_1 : Int) (b_2 : Int) : World → Prop :=
 W.Loop (s_0, a_1, b_2, ()) (fun (c1 : (Int × Unit) → (Bs × Int × Int × Unit) → World → Prop) (s : Int × Unit) => lz_alike_3 c1 R s.1 s_0 a_1 b_2) (n_7, ())
def lz_alike_0 (R : Int → World → Prop) (s_0 : Bs) (a_1 : Int) (b_2 : Int) : World → Prop :=
 lz_alike_1 R 0 s_0 a_1 b_2
theorem lz_alike_2_ok (R : Int → World → Prop) (n_7 : Int) (w : World) (h : lz_alike_2 R n_7 w) : WPC P 30 [] (Code.at lz_alike_B [.snd, .snd, .snd]) (topQ P [.tmp 6] I R) (mkE 30 lz_alike_l4 (n_7, ())) w :=
  pc_end (T := lz_alike_2 R n_7 w) hmix (by kernel_rfl) h
theorem lz_alike_3_ok (c1 : (Int × Unit) → (Bs × Int × Int × Unit) → World → Prop) (R : Int → World → Prop) (n_7 : Int) (s_0 : Bs) (a_1 : Int) (b_2 : Int) (w : World) (h : lz_alike_3 c1 R n_7 s_0 a_1 b_2 w) : WPC P 30 [] (Code.at lz_alike_B [.snd, .snd, .fst, .blk, .blk]) (thenQ (fun env => getE env lz_alike_l2 fun (s : Int × Unit) => getE env lz_alike_l3 (c1 s)) (blockQ 0 (fun env => getE env lz_alike_l4 fun (x : Int × Unit) => lz_alike_2 R x.1) (topQ P [.tmp 6] I R))) (mkE2 30 lz_alike_l2 lz_alike_l3 (n_7, ()) (s_0, a_1, b_2, ())) w :=
  pc_end (T := lz_alike_3 c1 R n_7 s_0 a_1 b_2 w) hmix (by kernel_rfl) h
theorem lz_alike_1_ok (R : Int → World → Prop) (n_7 : Int) (s_0 : Bs) (a_1 : Int) (b_2 : Int) (w : World) (h : lz_alike_1 R n_7 s_0 a_1 b_2 w) : WPC P 30 [] (Code.at lz_alike_B [.snd, .snd]) (topQ P [.tmp 6] I R) (mkE2 30 lz_alike_l2 lz_alike_l3 (n_7, ()) (s_0, a_1, b_2, ())) w :=
  pc_loopR (l := lz_alike_l2) (l' := lz_alike_l3) (body := fun (c1 : (Int × Unit) → (Bs × Int × Int × Unit) → World → Prop) (s : Int × Unit) => lz_alike_3 c1 R s.1 s_0 a_1 b_2) (lr := lz_alike_l4) (FR := fun (x : Int × Unit) => lz_alike_2 R x.1) (id := 0) (b := (Code.at lz_alike_B [.snd, .snd, .fst, .blk, .blk])) (rest := (Code.at lz_alike_B [.snd, .snd, .snd])) (by kernel_rfl) (fun c1 s w h => lz_alike_3_ok c1 R s.1 s_0 a_1 b_2 w h) (fun x w h => lz_alike_2_ok R x.1 w h) h
theorem lz_alike_0_ok (R : Int → World → Prop) (s_0 : Bs) (a_1 : Int) (b_2 : Int) (w : World) (h : lz_alike_0 R s_0 a_1 b_2 w) : WPC P 30 [] (Code.at lz_alike_B []) (topQ P [.tmp 6] I R) (mkE 30 lz_alike_l1 (s_0, a_1, b_2, ())) w :=
  pc_cut2 (T := lz_alike_0 R s_0 a_1 b_2 w) (l := lz_alike_l2) (l' := lz_alike_l3) (F := fun (x : Int × Unit) (y : Bs × Int × Int × Unit) => lz_alike_1 R x.1 y.1 y.2.1 y.2.2.1) hmix 2 (mkE_len ..) (by kernel_rfl) (fun x y w h => lz_alike_1_ok R x.1 y.1 y.2.1 y.2.2.1 w h) (by kernel_rfl) h
theorem lz_alike_call (R : Int → World → Prop) (s_0 : Bs) (a_1 : Int) (b_2 : Int) (w : World) (h : lz_alike_0 R s_0 a_1 b_2 w) : mcall P n_lz_alike [(.string ⟨s_0.toArray⟩), (.int .i64 a_1), (.int .i64 b_2)] I R w :=
  pc_top (T := (lz_alike_0 R s_0 a_1 b_2) w) (l := lz_alike_l1) (F := fun (x : Bs × Int × Int × Unit) => lz_alike_0 R x.1 x.2.1 x.2.2.1) (n := 30) (c := lz_alike_B) Tryz.func41 rfl (by kernel_rfl) (by kernel_rfl) (by kernel_rfl) (fun x w h => lz_alike_0_ok R x.1 x.2.1 x.2.2.1 w h) (by kernel_rfl) h
/- headgate crc.Sum -/
noncomputable abbrev crc_Sum_B : Code := (Tryz.f42.body).getD .skip
abbrev crc_Sum_l1 : Slots := [(0, .s)]
def crc_Sum_0 (R : Int → World → Prop) (s_0 : Bs) : World → Prop :=
 mcall P n_crc_More [(.int .u32 0), (.string ⟨s_0.toArray⟩)] (.i .u32) fun (x1 : Int) =>
 R x1
theorem crc_Sum_0_ok (R : Int → World → Prop) (s_0 : Bs) (w : World) (h : crc_Sum_0 R s_0 w) : WPC P 5 [] (Code.at crc_Sum_B []) (topQ P [.tmp 2] (.i .u32) R) (mkE 5 crc_Sum_l1 (s_0, ())) w :=
  pc_end (T := crc_Sum_0 R s_0 w) hmix (by kernel_rfl) h
theorem crc_Sum_call (R : Int → World → Prop) (s_0 : Bs) (w : World) (h : crc_Sum_0 R s_0 w) : mcall P n_crc_Sum [(.string ⟨s_0.toArray⟩)] (.i .u32) R w :=
  pc_top (T := (crc_Sum_0 R s_0) w) (l := crc_Sum_l1) (F := fun (x : Bs × Unit) => crc_Sum_0 R x.1) (n := 5) (c := crc_Sum_B) Tryz.func42 rfl (by kernel_rfl) (by kernel_rfl) (by kernel_rfl) (fun x w h => crc_Sum_0_ok R x.1 w h) (by kernel_rfl) h
/- headgate frame.Each$1 -/
noncomputable abbrev frame_Each_c1_B : Code := (Tryz.f43.body).getD .skip
abbrev frame_Each_c1_l1 : Slots := [(0, .v), (1, .ad)]
abbrev frame_Each_c1_l2 : Slots := []
abbrev frame_Each_c1_l3 : Slots := [(0, .v), (1, .ad)]
def frame_Each_c1_2 (c1 : Unit → (Value × Addr × Unit) → World → Prop) (R : Unit → World → Prop) (yield_0 : Value) (v1 : Addr) : World → Prop :=
 ld P t_string v1 .s fun (x1 : Bs) =>
 mcall P n_frame_Take [(.string ⟨x1.toArray⟩)] (.tup [k_api_Record, .s, I]) fun (x2 : T_api_Record × Bs × Int × Unit) =>
 alo P t_api_Entry fun a3 =>
 sto P t_api_Entry a3 k_api_Record x2.1 <|
 mif (x2.2.2.1 != 0)
 (R (()))
 (ld P t_string v1 .s fun (x4 : Bs) =>
 ld P t_api_Entry a3 k_api_Record fun (x5 : T_api_Record) =>
 mdyn P yield_0 [.int .i64 (w64 ((x4.length : Int) - (x2.2.1.length : Int))), .agg #[.int .i64 x5.1, .int .i64 x5.2.1, .string ⟨x5.2.2.1.toArray⟩]] .b fun (x6 : Bool) =>
 mif (!x6)
 (R (()))
 (sto P t_string v1 .s x2.2.1 <|
 c1 (()) (yield_0, v1, ())))
def frame_Each_c1_1 (R : Unit → World → Prop) (yield_0 : Value) (v1 : Addr) : World → Prop :=
 W.Loop (yield_0, v1, ()) (fun (c1 : Unit → (Value × Addr × Unit) → World → Prop) (s : Unit) => frame_Each_c1_2 c1 R yield_0 v1) (())
def frame_Each_c1_0 (R : Unit → World → Prop) (yield_0 : Value) (v1 : Addr) : World → Prop :=
 frame_Each_c1_1 R yield_0 v1
theorem frame_Each_c1_2_ok (c1 : Unit → (Value × Addr × Unit) → World → Prop) (R : Unit → World → Prop) (yield_0 : Value) (v1 : Addr) (w : World) (h : frame_Each_c1_2 c1 R yield_0 v1 w) : WPC P 26 [] (Code.at frame_Each_c1_B [.blk, .blk]) (thenQ (fun env => getE env frame_Each_c1_l2 fun (s : Unit) => getE env frame_Each_c1_l3 (c1 s)) (blockQ 0 ((topQ P [] (.tup []) R) .normal) (topQ P [] (.tup []) R))) (mkE2 26 frame_Each_c1_l2 frame_Each_c1_l3 (()) (yield_0, v1, ())) w :=
  pc_end (T := frame_Each_c1_2 c1 R yield_0 v1 w) hmix (by kernel_rfl) h
theorem frame_Each_c1_1_ok (R : Unit → World → Prop) (yield_0 : Value) (v1 : Addr) (w : World) (h : frame_Each_c1_1 R yield_0 v1 w) : WPC P 26 [] (Code.at frame_Each_c1_B []) (topQ P [] (.tup []) R) (mkE2 26 frame_Each_c1_l2 frame_Each_c1_l3 (()) (yield_0, v1, ())) w :=
  pc_loopE (l := frame_Each_c1_l2) (l' := frame_Each_c1_l3) (body := fun (c1 : Unit → (Value × Addr × Unit) → World → Prop) (s : Unit) => frame_Each_c1_2 c1 R yield_0 v1) (id := 0) (b := (Code.at frame_Each_c1_B [.blk, .blk])) (by kernel_rfl) (fun c1 s w h => frame_Each_c1_2_ok c1 R yield_0 v1 w h) h
theorem frame_Each_c1_0_ok (R : Unit → World → Prop) (yield_0 : Value) (v1 : Addr) (w : World) (h : frame_Each_c1_0 R yield_0 v1 w) : WPC P 26 [] (Code.at frame_Each_c1_B []) (topQ P [] (.tup []) R) (mkE 26 frame_Each_c1_l1 (yield_0, v1, ())) w :=
  pc_cut2 (T := frame_Each_c1_0 R yield_0 v1 w) (l := frame_Each_c1_l2) (l' := frame_Each_c1_l3) (F := fun (x : Unit) (y : Value × Addr × Unit) => frame_Each_c1_1 R y.1 y.2.1) hmix 0 (mkE_len ..) (by kernel_rfl) (fun x y w h => frame_Each_c1_1_ok R y.1 y.2.1 w h) (by kernel_rfl) h
theorem frame_Each_c1_call (R : Unit → World → Prop) (yield_0 : Value) (v1 : Addr) (w : World) (h : frame_Each_c1_0 R yield_0 v1 w) : mcall P n_frame_Each_c1 [yield_0, .pointer (some v1)] (.tup []) R w :=
  pc_top (T := (frame_Each_c1_0 R yield_0 v1) w) (l := frame_Each_c1_l1) (F := fun (x : Value × Addr × Unit) => frame_Each_c1_0 R x.1 x.2.1) (n := 26) (c := frame_Each_c1_B) Tryz.func43 rfl (by kernel_rfl) (by kernel_rfl) (by kernel_rfl) (fun x w h => frame_Each_c1_0_ok R x.1 x.2.1 w h) (by kernel_rfl) h
/- headgate frame.Take -/
noncomputable abbrev frame_Take_B : Code := (Tryz.f44.body).getD .skip
abbrev frame_Take_l1 : Slots := [(0, .s)]
def frame_Take_0 (R : (T_api_Record × Bs × Int × Unit) → World → Prop) (s_0 : Bs) : World → Prop :=
 alo P t_api_Entry fun a1 =>
 mcall P n_varint_TakeText [(.string ⟨s_0.toArray⟩), (.int .i64 131072)] (.tup [.s, .s, I]) fun (x2 : Bs × Bs × Int × Unit) =>
 mif (x2.2.2.1 != 0)
 (sto P t_api_Entry a1 k_api_Record (0, 0, [], ()) <|
 ld P t_api_Entry a1 k_api_Record fun (x3 : T_api_Record) =>
 R (x3, [], 2, ()))
 (mif (decide ((x2.2.1.length : Int) < 4))
 (sto P t_api_Entry a1 k_api_Record (0, 0, [], ()) <|
 ld P t_api_Entry a1 k_api_Record fun (x4 : T_api_Record) =>
 R (x4, [], 2, ()))
 (sls P t_string s_0 none (some (w64 ((w64 ((s_0.length : Int) - (x2.2.1.length : Int))) + 4))) fun (x5 : Bs) =>
 mcall P n_crc_Unseal [(.string ⟨x5.toArray⟩)] (.tup [.s, I]) fun (x6 : Bs × Int × Unit) =>
 mif (x6.2.1 != 0)
 (sto P t_api_Entry a1 k_api_Record (0, 0, [], ()) <|
 ld P t_api_Entry a1 k_api_Record fun (x7 : T_api_Record) =>
 R (x7, [], x6.2.1, ()))
 (mcall P n_varint_TakeText [(.string ⟨x6.1.toArray⟩), (.int .i64 (x6.1.length : Int))] (.tup [.s, .s, I]) fun (x8 : Bs × Bs × Int × Unit) =>
 mcall P n_varint_TakeAll [(.string ⟨x8.1.toArray⟩), (.int .i64 2)] (.tup [.sl, .s, I]) fun (x9 : Sl × Bs × Int × Unit) =>
 mif (x9.2.2.1 != 0)
 (sto P t_api_Entry a1 k_api_Record (0, 0, [], ()) <|
 ld P t_api_Entry a1 k_api_Record fun (x10 : T_api_Record) =>
 R (x10, [], x9.2.2.1, ()))
 (mdraw <|
 ixa P t_sl_int (Sl.v x9.1) 0 fun (x11 : Addr) =>
 ld P t_int x11 I fun (x12 : Int) =>
 ixa P t_sl_int (Sl.v x9.1) 1 fun (x13 : Addr) =>
 ld P t_int x13 I fun (x14 : Int) =>
 alo P t_api_Entry fun a15 =>
 mst P (Instr.loadAt t_int (.pointer (some x13))) (.int .i64 x14) <|
 mst P (Instr.indexAt t_sl_int (.slice x9.1.a x9.1.len x9.1.cap) (.int .i64 1)) (.pointer (some x13)) <|
 mst P (Instr.loadAt t_int (.pointer (some x11))) (.int .i64 x12) <|
 mst P (Instr.indexAt t_sl_int (.slice x9.1.a x9.1.len x9.1.cap) (.int .i64 0)) (.pointer (some x11)) <|
 sto P t_api_Entry a15 k_api_Record (x12, x14, x9.2.1, ()) <|
 ld P t_api_Entry a15 k_api_Record fun (x16 : T_api_Record) =>
 mcall P n_frame_Check [(KV k_api_Record x16)] I fun (x17 : Int) =>
 mif (x17 != 0)
 (sto P t_api_Entry a1 k_api_Record (0, 0, [], ()) <|
 ld P t_api_Entry a1 k_api_Record fun (x18 : T_api_Record) =>
 R (x18, [], 2, ()))
 (mdraw <|
 ld P t_api_Entry a15 k_api_Record fun (x19 : T_api_Record) =>
 sls P t_string x2.2.1 (some 4) none fun (x20 : Bs) =>
 sto P t_api_Entry a1 k_api_Record x19 <|
 mst P (Instr.sliceAt t_string (.string ⟨x2.2.1.toArray⟩) (some (.int .i64 4)) none none) (.string ⟨x20.toArray⟩) <|
 ld P t_api_Entry a1 k_api_Record fun (x21 : T_api_Record) =>
 R (x21, x20, 0, ()))))))
theorem frame_Take_0_ok (R : (T_api_Record × Bs × Int × Unit) → World → Prop) (s_0 : Bs) (w : World) (h : frame_Take_0 R s_0 w) : WPC P 80 [] (Code.at frame_Take_B []) (topQ P [.cell 2 t_api_Entry, .tmp 3, .tmp 4] (.tup [k_api_Record, .s, I]) R) (mkE 80 frame_Take_l1 (s_0, ())) w :=
  pc_end (T := frame_Take_0 R s_0 w) hmix (by kernel_rfl) h
theorem frame_Take_call (R : (T_api_Record × Bs × Int × Unit) → World → Prop) (s_0 : Bs) (w : World) (h : frame_Take_0 R s_0 w) : mcall P n_frame_Take [(.string ⟨s_0.toArray⟩)] (.tup [k_api_Record, .s, I]) R w :=
  pc_top (T := (frame_Take_0 R s_0) w) (l := frame_Take_l1) (F := fun (x : Bs × Unit) => frame_Take_0 R x.1) (n := 80) (c := frame_Take_B) Tryz.func44 rfl (by kernel_rfl) (by kernel_rfl) (by kernel_rfl) (fun x w h => frame_Take_0_ok R x.1 w h) (by kernel_rfl) h
/- headgate varint.TakeText -/
noncomputable abbrev varint_TakeText_B : Code := (Tryz.f45.body).getD .skip
abbrev varint_TakeText_l1 : Slots := [(0, .s), (1, I)]
def varint_TakeText_0 (R : (Bs × Bs × Int × Unit) → World → Prop) (s_0 : Bs) (most_1 : Int) : World → Prop :=
 mcall P n_varint_Take [(.string ⟨s_0.toArray⟩)] (.tup [I, .s, I]) fun (x1 : Int × Bs × Int × Unit) =>
 mif (x1.2.2.1 != 0)
 (R ([], [], 2, ()))
 (mif (decide (x1.1 < 0))
 (R ([], [], 2, ()))
 (mif (decide (x1.1 > most_1))
 (R ([], [], 2, ()))
 (mif (decide (x1.1 > (x1.2.1.length : Int)))
 (R ([], [], 2, ()))
 (mdraw <|
 sls P t_string x1.2.1 none (some x1.1) fun (x2 : Bs) =>
 sls P t_string x1.2.1 (some x1.1) none fun (x3 : Bs) =>
 R (x2, x3, 0, ())))))
theorem varint_TakeText_0_ok (R : (Bs × Bs × Int × Unit) → World → Prop) (s_0 : Bs) (most_1 : Int) (w : World) (h : varint_TakeText_0 R s_0 most_1 w) : WPC P 39 [] (Code.at varint_TakeText_B []) (topQ P [.tmp 4, .tmp 5, .tmp 6] (.tup [.s, .s, I]) R) (mkE 39 varint_TakeText_l1 (s_0, most_1, ())) w :=
  pc_end (T := varint_TakeText_0 R s_0 most_1 w) hmix (by kernel_rfl) h
theorem varint_TakeText_call (R : (Bs × Bs × Int × Unit) → World → Prop) (s_0 : Bs) (most_1 : Int) (w : World) (h : varint_TakeText_0 R s_0 most_1 w) : mcall P n_varint_TakeText [(.string ⟨s_0.toArray⟩), (.int .i64 most_1)] (.tup [.s, .s, I]) R w :=
  pc_top (T := (varint_TakeText_0 R s_0 most_1) w) (l := varint_TakeText_l1) (F := fun (x : Bs × Int × Unit) => varint_TakeText_0 R x.1 x.2.1) (n := 39) (c := varint_TakeText_B) Tryz.func45 rfl (by kernel_rfl) (by kernel_rfl) (by kernel_rfl) (fun x w h => varint_TakeText_0_ok R x.1 x.2.1 w h) (by kernel_rfl) h
/- headgate seglog.Open -/
noncomputable abbrev seglog_Open_B : Code := (Tryz.f46.body).getD .skip
abbrev seglog_Open_l1 : Slots := [(0, .p), (1, .s)]
abbrev seglog_Open_l2 : Slots := [(0, .p), (6, .ad), (7, .sl), (8, .s)]
abbrev seglog_Open_l3 : Slots := [(0, .p), (6, .ad), (7, .sl), (8, .s)]
abbrev seglog_Open_l4 : Slots := [(0, .p), (6, .ad), (8, .s)]
abbrev seglog_Open_l5 : Slots := [(6, .ad)]
def seglog_Open_4 (R : (Option Addr × Int × Unit) → World → Prop) (l_6 : Addr) : World → Prop :=
 ld P t_int (ad l_6 4) I fun (x7 : Int) =>
 sto P t_int (ad l_6 5) I x7 <|
 R ((some l_6), 0, ())
def seglog_Open_3 (R : (Option Addr × Int × Unit) → World → Prop) (d_0 : Option Addr) (l_6 : Addr) (last_8 : Bs) : World → Prop :=
 mif (!(last_8 == []))
 (mcall P n_disk_Disk_Sync [(.pointer d_0), (.string ⟨last_8.toArray⟩)] I fun (x6 : Int) =>
 mif (x6 != 0)
 (R (none, x6, ()))
 (seglog_Open_4 R l_6))
 (seglog_Open_4 R l_6)
abbrev seglog_Open_l6 : Slots := [(0, .p), (6, .ad), (7, .sl), (8, .s)]
abbrev seglog_Open_l7 : Slots := [(56, I)]
abbrev seglog_Open_l8 : Slots := [(0, .p), (6, .ad), (8, .s), (54, .sl), (55, I)]
abbrev seglog_Open_l9 : Slots := [(0, .p), (6, .ad), (8, .s), (54, .sl), (55, I), (56, I)]
def seglog_Open_8 (c1 : (Int × Unit) → (Option Addr × Addr × Bs × Sl × Int × Unit) → World → Prop) (R : (Option Addr × Int × Unit) → World → Prop) (d_0 : Option Addr) (l_6 : Addr) (last_8 : Bs) (v54 : Sl) (v55 : Int) (v56 : Int) : World → Prop :=
 c1 (w64 (v56 + 1), ()) (d_0, l_6, last_8, v54, v55, ())
def seglog_Open_7 (c1 : (Int × Unit) → (Option Addr × Addr × Bs × Sl × Int × Unit) → World → Prop) (R : (Option Addr × Int × Unit) → World → Prop) (v56 : Int) (d_0 : Option Addr) (l_6 : Addr) (last_8 : Bs) (v54 : Sl) (v55 : Int) : World → Prop :=
 mif (decide (v56 < v55))
 (ixa P t_sl_api_File (Sl.v v54) v56 fun (x8 : Addr) =>
 ld P t_api_File x8 k_api_File fun (x9 : T_api_File) =>
 alo P t_api_File fun a10 =>
 sto P t_api_File a10 k_api_File x9 <|
 ld P t_string a10 .s fun (x11 : Bs) =>
 mcall P n_seglog_Log_base [(.pointer (some l_6)), (.string ⟨x11.toArray⟩)] (.tup [I, .b]) fun (x12 : Int × Bool × Unit) =>
 mif (!x12.2.1)
 (seglog_Open_8 c1 R d_0 l_6 last_8 v54 v55 v56)
 (ld P t_sl_seglog_segment (ad l_6 2) .sl fun (x13 : Sl) =>
 mif ((x13.len : Int) == 0)
 (sto P t_int (ad l_6 3) I x12.1 <|
 sto P t_int (ad l_6 4) I x12.1 <|
 ld P t_int (ad l_6 4) I fun (x14 : Int) =>
 mif (x12.1 != x14)
 (R (none, 2, ()))
 (ld P t_string (ad a10 1) .s fun (x15 : Bs) =>
 ld P t_string (ad a10 2) .s fun (x16 : Bs) =>
 mcat x15 x16 fun s17 =>
 mcall P n_seglog_Log_load [(.pointer (some l_6)), (.int .i64 x12.1), (.string ⟨s17.toArray⟩)] I fun (x18 : Int) =>
 ld P t_string (ad a10 1) .s fun (x19 : Bs) =>
 ld P t_string (ad a10 2) .s fun (x20 : Bs) =>
 mif (x18 == (w64 ((x19.length : Int) + (x20.length : Int))))
 (seglog_Open_8 c1 R d_0 l_6 last_8 v54 v55 v56)
 (ld P t_string a10 .s fun (x21 : Bs) =>
 mif (!(x21 == last_8))
 (R (none, 2, ()))
 (ld P t_string a10 .s fun (x22 : Bs) =>
 mcall P n_disk_Disk_Truncate [(.pointer d_0), (.string ⟨x22.toArray⟩), (.int .i64 x18)] I fun (x23 : Int) =>
 mif (x23 != 0)
 (R (none, x23, ()))
 (seglog_Open_8 c1 R d_0 l_6 last_8 v54 v55 v56)))))
 (ld P t_int (ad l_6 4) I fun (x24 : Int) =>
 mif (x12.1 != x24)
 (R (none, 2, ()))
 (ld P t_string (ad a10 1) .s fun (x25 : Bs) =>
 ld P t_string (ad a10 2) .s fun (x26 : Bs) =>
 mcat x25 x26 fun s27 =>
 mcall P n_seglog_Log_load [(.pointer (some l_6)), (.int .i64 x12.1), (.string ⟨s27.toArray⟩)] I fun (x28 : Int) =>
 ld P t_string (ad a10 1) .s fun (x29 : Bs) =>
 ld P t_string (ad a10 2) .s fun (x30 : Bs) =>
 mif (x28 == (w64 ((x29.length : Int) + (x30.length : Int))))
 (seglog_Open_8 c1 R d_0 l_6 last_8 v54 v55 v56)
 (ld P t_string a10 .s fun (x31 : Bs) =>
 mif (!(x31 == last_8))
 (R (none, 2, ()))
 (ld P t_string a10 .s fun (x32 : Bs) =>
 mcall P n_disk_Disk_Truncate [(.pointer d_0), (.string ⟨x32.toArray⟩), (.int .i64 x28)] I fun (x33 : Int) =>
 mif (x33 != 0)
 (R (none, x33, ()))
 (seglog_Open_8 c1 R d_0 l_6 last_8 v54 v55 v56)))))))
 (seglog_Open_3 R d_0 l_6 last_8)
def seglog_Open_6 (R : (Option Addr × Int × Unit) → World → Prop) (v56 : Int) (d_0 : Option Addr) (l_6 : Addr) (last_8 : Bs) (v54 : Sl) (v55 : Int) : World → Prop :=
 W.Loop (d_0, l_6, last_8, v54, v55, ()) (fun (c1 : (Int × Unit) → (Option Addr × Addr × Bs × Sl × Int × Unit) → World → Prop) (s : Int × Unit) => seglog_Open_7 c1 R s.1 d_0 l_6 last_8 v54 v55) (v56, ())
def seglog_Open_5 (R : (Option Addr × Int × Unit) → World → Prop) (d_0 : Option Addr) (l_6 : Addr) (files_7 : Sl) (last_8 : Bs) : World → Prop :=
 seglog_Open_6 R 0 d_0 l_6 last_8 files_7 (files_7.len : Int)
def seglog_Open_2 (R : (Option Addr × Int × Unit) → World → Prop) (d_0 : Option Addr) (l_6 : Addr) (files_7 : Sl) (last_8 : Bs) : World → Prop :=
 seglog_Open_5 R d_0 l_6 files_7 last_8
abbrev seglog_Open_l10 : Slots := [(0, .p), (6, .ad), (7, .sl), (8, .s)]
abbrev seglog_Open_l11 : Slots := [(8, .s), (39, I)]
abbrev seglog_Open_l12 : Slots := [(0, .p), (6, .ad), (7, .sl), (37, .sl), (38, I)]
abbrev seglog_Open_l13 : Slots := [(0, .p), (6, .ad), (7, .sl), (8, .s), (37, .sl), (38, I), (39, I)]
def seglog_Open_12 (c1 : (Bs × Int × Unit) → (Option Addr × Addr × Sl × Sl × Int × Unit) → World → Prop) (R : (Option Addr × Int × Unit) → World → Prop) (d_0 : Option Addr) (l_6 : Addr) (files_7 : Sl) (last_8 : Bs) (v37 : Sl) (v38 : Int) (v39 : Int) : World → Prop :=
 c1 (last_8, w64 (v39 + 1), ()) (d_0, l_6, files_7, v37, v38, ())
def seglog_Open_11 (c1 : (Bs × Int × Unit) → (Option Addr × Addr × Sl × Sl × Int × Unit) → World → Prop) (R : (Option Addr × Int × Unit) → World → Prop) (last_8 : Bs) (v39 : Int) (d_0 : Option Addr) (l_6 : Addr) (files_7 : Sl) (v37 : Sl) (v38 : Int) : World → Prop :=
 mif (decide (v39 < v38))
 (ixa P t_sl_api_File (Sl.v v37) v39 fun (x34 : Addr) =>
 ld P t_api_File x34 k_api_File fun (x35 : T_api_File) =>
 alo P t_api_File fun a36 =>
 sto P t_api_File a36 k_api_File x35 <|
 ld P t_string a36 .s fun (x37 : Bs) =>
 mcall P n_seglog_Log_base [(.pointer (some l_6)), (.string ⟨x37.toArray⟩)] (.tup [I, .b]) fun (x38 : Int × Bool × Unit) =>
 mif x38.2.1
 (ld P t_string a36 .s fun (x39 : Bs) =>
 seglog_Open_12 c1 R d_0 l_6 files_7 x39 v37 v38 v39)
 (seglog_Open_12 c1 R d_0 l_6 files_7 last_8 v37 v38 v39))
 (seglog_Open_2 R d_0 l_6 files_7 last_8)
def seglog_Open_10 (R : (Option Addr × Int × Unit) → World → Prop) (last_8 : Bs) (v39 : Int) (d_0 : Option Addr) (l_6 : Addr) (files_7 : Sl) (v37 : Sl) (v38 : Int) : World → Prop :=
 W.Loop (d_0, l_6, files_7, v37, v38, ()) (fun (c1 : (Bs × Int × Unit) → (Option Addr × Addr × Sl × Sl × Int × Unit) → World → Prop) (s : Bs × Int × Unit) => seglog_Open_11 c1 R s.1 s.2.1 d_0 l_6 files_7 v37 v38) (last_8, v39, ())
def seglog_Open_9 (R : (Option Addr × Int × Unit) → World → Prop) (d_0 : Option Addr) (l_6 : Addr) (files_7 : Sl) (last_8 : Bs) : World → Prop :=
 seglog_Open_10 R last_8 0 d_0 l_6 files_7 files_7 (files_7.len : Int)
def seglog_Open_1 (R : (Option Addr × Int × Unit) → World → Prop) (d_0 : Option Addr) (l_6 : Addr) (files_7 : Sl) (last_8 : Bs) : World → Prop :=
 seglog_Open_9 R d_0 l_6 files_7 last_8
def seglog_Open_0 (R : (Option Addr × Int × Unit) → World → Prop) (d_0 : Option Addr) (name_1 : Bs) : World → Prop :=
 meq P .eql t_ptr_disk_Disk (.pointer d_0) (.pointer none) fun (x1 : Bool) =>
 mif x1
 (R (none, 1, ()))
 (mcall P n_seglog_named [(.string ⟨name_1.toArray⟩)] .b fun (x2 : Bool) =>
 mif (!x2)
 (R (none, 1, ()))
 (mcall P n_disk_Disk_Off [(.pointer d_0)] .b fun (x3 : Bool) =>
 mif x3
 (R (none, 4, ()))
 (bx P t_seglog_Log k_seglog_Log (d_0, name_1, ⟨none, 0, 0⟩, 0, 0, 0, 0, ()) fun a4 =>
 mcall P n_disk_Disk_Files [(.pointer d_0)] .sl fun (x5 : Sl) =>
 seglog_Open_1 R d_0 a4 x5 [])))
theorem seglog_Open_4_ok (R : (Option Addr × Int × Unit) → World → Prop) (l_6 : Addr) (w : World) (h : seglog_Open_4 R l_6 w) : WPC P 135 [] (Code.at seglog_Open_B [.snd, .snd, .snd, .snd, .snd, .snd, .snd, .snd]) (topQ P [.tmp 4, .tmp 5] (.tup [.p, I]) R) (mkE 135 seglog_Open_l5 (l_6, ())) w :=
  pc_end (T := seglog_Open_4 R l_6 w) hmix (by kernel_rfl) h
theorem seglog_Open_3_ok (R : (Option Addr × Int × Unit) → World → Prop) (d_0 : Option Addr) (l_6 : Addr) (last_8 : Bs) (w : World) (h : seglog_Open_3 R d_0 l_6 last_8 w) : WPC P 135 [] (Code.at seglog_Open_B [.snd, .snd, .snd, .snd, .snd, .snd, .snd]) (topQ P [.tmp 4, .tmp 5] (.tup [.p, I]) R) (mkE 135 seglog_Open_l4 (d_0, l_6, last_8, ())) w :=
  pc_cut (T := seglog_Open_3 R d_0 l_6 last_8 w) (l := seglog_Open_l5) (F := fun (x : Addr × Unit) => seglog_Open_4 R x.1) hmix 1 (mkE_len ..) (by kernel_rfl) (fun x w h => seglog_Open_4_ok R x.1 w h) (by kernel_rfl) h
theorem seglog_Open_8_ok (c1 : (Int × Unit) → (Option Addr × Addr × Bs × Sl × Int × Unit) → World → Prop) (R : (Option Addr × Int × Unit) → World → Prop) (d_0 : Option Addr) (l_6 : Addr) (last_8 : Bs) (v54 : Sl) (v55 : Int) (v56 : Int) (w : World) (h : seglog_Open_8 c1 R d_0 l_6 last_8 v54 v55 v56 w) : WPC P 135 [] (Code.at seglog_Open_B [.snd, .snd, .snd, .snd, .snd, .snd, .fst, .snd, .blk, .blk, .snd, .snd, .snd]) (thenQ (fun env => getE env seglog_Open_l7 fun (s : Int × Unit) => getE env seglog_Open_l8 (c1 s)) (blockQ 3 ((thenQ (fun env => getE env seglog_Open_l4 fun (x : Option Addr × Addr × Bs × Unit) => seglog_Open_3 R x.1 x.2.1 x.2.2.1) (topQ P [.tmp 4, .tmp 5] (.tup [.p, I]) R)) .normal) (thenQ (fun env => getE env seglog_Open_l4 fun (x : Option Addr × Addr × Bs × Unit) => seglog_Open_3 R x.1 x.2.1 x.2.2.1) (topQ P [.tmp 4, .tmp 5] (.tup [.p, I]) R)))) (mkE 135 seglog_Open_l9 (d_0, l_6, last_8, v54, v55, v56, ())) w :=
  pc_end (T := seglog_Open_8 c1 R d_0 l_6 last_8 v54 v55 v56 w) hmix (by kernel_rfl) h
theorem seglog_Open_7_ok (c1 : (Int × Unit) → (Option Addr × Addr × Bs × Sl × Int × Unit) → World → Prop) (R : (Option Addr × Int × Unit) → World → Prop) (v56 : Int) (d_0 : Option Addr) (l_6 : Addr) (last_8 : Bs) (v54 : Sl) (v55 : Int) (w : World) (h : seglog_Open_7 c1 R v56 d_0 l_6 last_8 v54 v55 w) : WPC P 135 [] (Code.at seglog_Open_B [.snd, .snd, .snd, .snd, .snd, .snd, .fst, .snd, .blk, .blk]) (thenQ (fun env => getE env seglog_Open_l7 fun (s : Int × Unit) => getE env seglog_Open_l8 (c1 s)) (blockQ 3 ((thenQ (fun env => getE env seglog_Open_l4 fun (x : Option Addr × Addr × Bs × Unit) => seglog_Open_3 R x.1 x.2.1 x.2.2.1) (topQ P [.tmp 4, .tmp 5] (.tup [.p, I]) R)) .normal) (thenQ (fun env => getE env seglog_Open_l4 fun (x : Option Addr × Addr × Bs × Unit) => seglog_Open_3 R x.1 x.2.1 x.2.2.1) (topQ P [.tmp 4, .tmp 5] (.tup [.p, I]) R)))) (mkE2 135 seglog_Open_l7 seglog_Open_l8 (v56, ()) (d_0, l_6, last_8, v54, v55, ())) w :=
  pc_cut (T := seglog_Open_7 c1 R v56 d_0 l_6 last_8 v54 v55 w) (l := seglog_Open_l9) (F := fun (x : Option Addr × Addr × Bs × Sl × Int × Int × Unit) => seglog_Open_8 c1 R x.1 x.2.1 x.2.2.1 x.2.2.2.1 x.2.2.2.2.1 x.2.2.2.2.2.1) hmix 3 (mkE2_len ..) (by kernel_rfl) (fun x w h => seglog_Open_8_ok c1 R x.1 x.2.1 x.2.2.1 x.2.2.2.1 x.2.2.2.2.1 x.2.2.2.2.2.1 w h) (by kernel_rfl) h
theorem seglog_Open_6_ok (R : (Option Addr × Int × Unit) → World → Prop) (v56 : Int) (d_0 : Option Addr) (l_6 : Addr) (last_8 : Bs) (v54 : Sl) (v55 : Int) (w : World) (h : seglog_Open_6 R v56 d_0 l_6 last_8 v54 v55 w) : WPC P 135 [] (Code.at seglog_Open_B [.snd, .snd, .snd, .snd, .snd, .snd, .fst, .snd]) (thenQ (fun env => getE env seglog_Open_l4 fun (x : Option Addr × Addr × Bs × Unit) => seglog_Open_3 R x.1 x.2.1 x.2.2.1) (topQ P [.tmp 4, .tmp 5] (.tup [.p, I]) R)) (mkE2 135 seglog_Open_l7 seglog_Open_l8 (v56, ()) (d_0, l_6, last_8, v54, v55, ())) w :=
  pc_loopE (l := seglog_Open_l7) (l' := seglog_Open_l8) (body := fun (c1 : (Int × Unit) → (Option Addr × Addr × Bs × Sl × Int × Unit) → World → Prop) (s : Int × Unit) => seglog_Open_7 c1 R s.1 d_0 l_6 last_8 v54 v55) (id := 3) (b := (Code.at seglog_Open_B [.snd, .snd, .snd, .snd, .snd, .snd, .fst, .snd, .blk, .blk])) (by kernel_rfl) (fun c1 s w h => seglog_Open_7_ok c1 R s.1 d_0 l_6 last_8 v54 v55 w h) h
theorem seglog_Open_5_ok (R : (Option Addr × Int × Unit) → World → Prop) (d_0 : Option Addr) (l_6 : Addr) (files_7 : Sl) (last_8 : Bs) (w : World) (h : seglog_Open_5 R d_0 l_6 files_7 last_8 w) : WPC P 135 [] (Code.at seglog_Open_B [.snd, .snd, .snd, .snd, .snd, .snd, .fst]) (thenQ (fun env => getE env seglog_Open_l4 fun (x : Option Addr × Addr × Bs × Unit) => seglog_Open_3 R x.1 x.2.1 x.2.2.1) (topQ P [.tmp 4, .tmp 5] (.tup [.p, I]) R)) (mkE 135 seglog_Open_l6 (d_0, l_6, files_7, last_8, ())) w :=
  pc_cut2 (T := seglog_Open_5 R d_0 l_6 files_7 last_8 w) (l := seglog_Open_l7) (l' := seglog_Open_l8) (F := fun (x : Int × Unit) (y : Option Addr × Addr × Bs × Sl × Int × Unit) => seglog_Open_6 R x.1 y.1 y.2.1 y.2.2.1 y.2.2.2.1 y.2.2.2.2.1) hmix 1 (mkE_len ..) (by kernel_rfl) (fun x y w h => seglog_Open_6_ok R x.1 y.1 y.2.1 y.2.2.1 y.2.2.2.1 y.2.2.2.2.1 w h) (by kernel_rfl) h
theorem seglog_Open_2_ok (R : (Option Addr × Int × Unit) → World → Prop) (d_0 : Option Addr) (l_6 : Addr) (files_7 : Sl) (last_8 : Bs) (w : World) (h : seglog_Open_2 R d_0 l_6 files_7 last_8 w) : WPC P 135 [] (Code.at seglog_Open_B [.snd, .snd, .snd, .snd, .snd, .snd]) (topQ P [.tmp 4, .tmp 5] (.tup [.p, I]) R) (mkE 135 seglog_Open_l3 (d_0, l_6, files_7, last_8, ())) w :=
  pc_seq (l := seglog_Open_l4) (F := fun (x : Option Addr × Addr × Bs × Unit) => seglog_Open_3 R x.1 x.2.1 x.2.2.1) (a := (Code.at seglog_Open_B [.snd, .snd, .snd, .snd, .snd, .snd, .fst])) (b := (Code.at seglog_Open_B [.snd, .snd, .snd, .snd, .snd, .snd, .snd])) (by kernel_rfl) (pc_cut (T := (seglog_Open_5 R d_0 l_6 files_7 last_8) w) (l := seglog_Open_l6) (F := fun (x : Option Addr × Addr × Sl × Bs × Unit) => seglog_Open_5 R x.1 x.2.1 x.2.2.1 x.2.2.2.1) (c := (Code.at seglog_Open_B [.snd, .snd, .snd, .snd, .snd, .snd, .fst])) hmix 0 (mkE_len ..) (by kernel_rfl) (fun x w h => seglog_Open_5_ok R x.1 x.2.1 x.2.2.1 x.2.2.2.1 w h) (by kernel_rfl) h) (fun x w h => seglog_Open_3_ok R x.1 x.2.1 x.2.2.1 w h)
theorem seglog_Open_12_ok (c1 : (Bs × Int × Unit) → (Option Addr × Addr × Sl × Sl × Int × Unit) → World → Prop) (R : (Option Addr × Int × Unit) → World → Prop) (d_0 : Option Addr) (l_6 : Addr) (files_7 : Sl) (last_8 : Bs) (v37 : Sl) (v38 : Int) (v39 : Int) (w : World) (h : seglog_Open_12 c1 R d_0 l_6 files_7 last_8 v37 v38 v39 w) : WPC P 135 [] (Code.at seglog_Open_B [.snd, .snd, .snd, .snd, .snd, .fst, .snd, .blk, .blk, .snd, .snd, .snd]) (thenQ (fun env => getE env seglog_Open_l11 fun (s : Bs × Int × Unit) => getE env seglog_Open_l12 (c1 s)) (blockQ 1 ((thenQ (fun env => getE env seglog_Open_l3 fun (x : Option Addr × Addr × Sl × Bs × Unit) => seglog_Open_2 R x.1 x.2.1 x.2.2.1 x.2.2.2.1) (topQ P [.tmp 4, .tmp 5] (.tup [.p, I]) R)) .normal) (thenQ (fun env => getE env seglog_Open_l3 fun (x : Option Addr × Addr × Sl × Bs × Unit) => seglog_Open_2 R x.1 x.2.1 x.2.2.1 x.2.2.2.1) (topQ P [.tmp 4, .tmp 5] (.tup [.p, I]) R)))) (mkE 135 seglog_Open_l13 (d_0, l_6, files_7, last_8, v37, v38, v39, ())) w :=
  pc_end (T := seglog_Open_12 c1 R d_0 l_6 files_7 last_8 v37 v38 v39 w) hmix (by kernel_rfl) h
theorem seglog_Open_11_ok (c1 : (Bs × Int × Unit) → (Option Addr × Addr × Sl × Sl × Int × Unit) → World → Prop) (R : (Option Addr × Int × Unit) → World → Prop) (last_8 : Bs) (v39 : Int) (d_0 : Option Addr) (l_6 : Addr) (files_7 : Sl) (v37 : Sl) (v38 : Int) (w : World) (h : seglog_Open_11 c1 R last_8 v39 d_0 l_6 files_7 v37 v38 w) : WPC P 135 [] (Code.at seglog_Open_B [.snd, .snd, .snd, .snd, .snd, .fst, .snd, .blk, .blk]) (thenQ (fun env => getE env seglog_Open_l11 fun (s : Bs × Int × Unit) => getE env seglog_Open_l12 (c1 s)) (blockQ 1 ((thenQ (fun env => getE env seglog_Open_l3 fun (x : Option Addr × Addr × Sl × Bs × Unit) => seglog_Open_2 R x.1 x.2.1 x.2.2.1 x.2.2.2.1) (topQ P [.tmp 4, .tmp 5] (.tup [.p, I]) R)) .normal) (thenQ (fun env => getE env seglog_Open_l3 fun (x : Option Addr × Addr × Sl × Bs × Unit) => seglog_Open_2 R x.1 x.2.1 x.2.2.1 x.2.2.2.1) (topQ P [.tmp 4, .tmp 5] (.tup [.p, I]) R)))) (mkE2 135 seglog_Open_l11 seglog_Open_l12 (last_8, v39, ()) (d_0, l_6, files_7, v37, v38, ())) w :=
  pc_cut (T := seglog_Open_11 c1 R last_8 v39 d_0 l_6 files_7 v37 v38 w) (l := seglog_Open_l13) (F := fun (x : Option Addr × Addr × Sl × Bs × Sl × Int × Int × Unit) => seglog_Open_12 c1 R x.1 x.2.1 x.2.2.1 x.2.2.2.1 x.2.2.2.2.1 x.2.2.2.2.2.1 x.2.2.2.2.2.2.1) hmix 3 (mkE2_len ..) (by kernel_rfl) (fun x w h => seglog_Open_12_ok c1 R x.1 x.2.1 x.2.2.1 x.2.2.2.1 x.2.2.2.2.1 x.2.2.2.2.2.1 x.2.2.2.2.2.2.1 w h) (by kernel_rfl) h
theorem seglog_Open_10_ok (R : (Option Addr × Int × Unit) → World → Prop) (last_8 : Bs) (v39 : Int) (d_0 : Option Addr) (l_6 : Addr) (files_7 : Sl) (v37 : Sl) (v38 : Int) (w : World) (h : seglog_Open_10 R last_8 v39 d_0 l_6 files_7 v37 v38 w) : WPC P 135 [] (Code.at seglog_Open_B [.snd, .snd, .snd, .snd, .snd, .fst, .snd]) (thenQ (fun env => getE env seglog_Open_l3 fun (x : Option Addr × Addr × Sl × Bs × Unit) => seglog_Open_2 R x.1 x.2.1 x.2.2.1 x.2.2.2.1) (topQ P [.tmp 4, .tmp 5] (.tup [.p, I]) R)) (mkE2 135 seglog_Open_l11 seglog_Open_l12 (last_8, v39, ()) (d_0, l_6, files_7, v37, v38, ())) w :=
  pc_loopE (l := seglog_Open_l11) (l' := seglog_Open_l12) (body := fun (c1 : (Bs × Int × Unit) → (Option Addr × Addr × Sl × Sl × Int × Unit) → World → Prop) (s : Bs × Int × Unit) => seglog_Open_11 c1 R s.1 s.2.1 d_0 l_6 files_7 v37 v38) (id := 1) (b := (Code.at seglog_Open_B [.snd, .snd, .snd, .snd, .snd, .fst, .snd, .blk, .blk])) (by kernel_rfl) (fun c1 s w h => seglog_Open_11_ok c1 R s.1 s.2.1 d_0 l_6 files_7 v37 v38 w h) h
theorem seglog_Open_9_ok (R : (Option Addr × Int × Unit) → World → Prop) (d_0 : Option Addr) (l_6 : Addr) (files_7 : Sl) (last_8 : Bs) (w : World) (h : seglog_Open_9 R d_0 l_6 files_7 last_8 w) : WPC P 135 [] (Code.at seglog_Open_B [.snd, .snd, .snd, .snd, .snd, .fst]) (thenQ (fun env => getE env seglog_Open_l3 fun (x : Option Addr × Addr × Sl × Bs × Unit) => seglog_Open_2 R x.1 x.2.1 x.2.2.1 x.2.2.2.1) (topQ P [.tmp 4, .tmp 5] (.tup [.p, I]) R)) (mkE 135 seglog_Open_l10 (d_0, l_6, files_7, last_8, ())) w :=
  pc_cut2 (T := seglog_Open_9 R d_0 l_6 files_7 last_8 w) (l := seglog_Open_l11) (l' := seglog_Open_l12) (F := fun (x : Bs × Int × Unit) (y : Option Addr × Addr × Sl × Sl × Int × Unit) => seglog_Open_10 R x.1 x.2.1 y.1 y.2.1 y.2.2.1 y.2.2.2.1 y.2.2.2.2.1) hmix 1 (mkE_len ..) (by kernel_rfl) (fun x y w h => seglog_Open_10_ok R x.1 x.2.1 y.1 y.2.1 y.2.2.1 y.2.2.2.1 y.2.2.2.2.1 w h) (by kernel_rfl) h
theorem seglog_Open_1_ok (R : (Option Addr × Int × Unit) → World → Prop) (d_0 : Option Addr) (l_6 : Addr) (files_7 : Sl) (last_8 : Bs) (w : World) (h : seglog_Open_1 R d_0 l_6 files_7 last_8 w) : WPC P 135 [] (Code.at seglog_Open_B [.snd, .snd, .snd, .snd, .snd]) (topQ P [.tmp 4, .tmp 5] (.tup [.p, I]) R) (mkE 135 seglog_Open_l2 (d_0, l_6, files_7, last_8, ())) w :=
  pc_seq (l := seglog_Open_l3) (F := fun (x : Option Addr × Addr × Sl × Bs × Unit) => seglog_Open_2 R x.1 x.2.1 x.2.2.1 x.2.2.2.1) (a := (Code.at seglog_Open_B [.snd, .snd, .snd, .snd, .snd, .fst])) (b := (Code.at seglog_Open_B [.snd, .snd, .snd, .snd, .snd, .snd])) (by kernel_rfl) (pc_cut (T := (seglog_Open_9 R d_0 l_6 files_7 last_8) w) (l := seglog_Open_l10) (F := fun (x : Option Addr × Addr × Sl × Bs × Unit) => seglog_Open_9 R x.1 x.2.1 x.2.2.1 x.2.2.2.1) (c := (Code.at seglog_Open_B [.snd, .snd, .snd, .snd, .snd, .fst])) hmix 0 (mkE_len ..) (by kernel_rfl) (fun x w h => seglog_Open_9_ok R x.1 x.2.1 x.2.2.1 x.2.2.2.1 w h) (by kernel_rfl) h) (fun x w h => seglog_Open_2_ok R x.1 x.2.1 x.2.2.1 x.2.2.2.1 w h)
theorem seglog_Open_0_ok (R : (Option Addr × Int × Unit) → World → Prop) (d_0 : Option Addr) (name_1 : Bs) (w : World) (h : seglog_Open_0 R d_0 name_1 w) : WPC P 135 [] (Code.at seglog_Open_B []) (topQ P [.tmp 4, .tmp 5] (.tup [.p, I]) R) (mkE 135 seglog_Open_l1 (d_0, name_1, ())) w :=
  pc_cut (T := seglog_Open_0 R d_0 name_1 w) (l := seglog_Open_l2) (F := fun (x : Option Addr × Addr × Sl × Bs × Unit) => seglog_Open_1 R x.1 x.2.1 x.2.2.1 x.2.2.2.1) hmix 5 (mkE_len ..) (by kernel_rfl) (fun x w h => seglog_Open_1_ok R x.1 x.2.1 x.2.2.1 x.2.2.2.1 w h) (by kernel_rfl) h
theorem seglog_Open_call (R : (Option Addr × Int × Unit) → World → Prop) (d_0 : Option Addr) (name_1 : Bs) (w : World) (h : seglog_Open_0 R d_0 name_1 w) : mcall P n_seglog_Open [(.pointer d_0), (.string ⟨name_1.toArray⟩)] (.tup [.p, I]) R w :=
  pc_top (T := (seglog_Open_0 R d_0 name_1) w) (l := seglog_Open_l1) (F := fun (x : Option Addr × Bs × Unit) => seglog_Open_0 R x.1 x.2.1) (n := 135) (c := seglog_Open_B) Tryz.func46 rfl (by kernel_rfl) (by kernel_rfl) (by kernel_rfl) (fun x w h => seglog_Open_0_ok R x.1 x.2.1 w h) (by kernel_rfl) h
/- (*headgate seglog.Log).First -/
noncomputable abbrev seglog_Log_First_B : Code := (Tryz.f47.body).getD .skip
abbrev seglog_Log_First_l1 : Slots := [(0, .p)]
def seglog_Log_First_0 (R : Int → World → Prop) (l_0 : Option Addr) : World → Prop :=
 meq P .eql t_ptr_seglog_Log (.pointer l_0) (.pointer none) fun (x1 : Bool) =>
 mif x1
 (R 0)
 (mnil l_0 fun a2 =>
 ld P t_int (ad a2 3) I fun (x3 : Int) =>
 R x3)
theorem seglog_Log_First_0_ok (R : Int → World → Prop) (l_0 : Option Addr) (w : World) (h : seglog_Log_First_0 R l_0 w) : WPC P 9 [] (Code.at seglog_Log_First_B []) (topQ P [.tmp 2] I R) (mkE 9 seglog_Log_First_l1 (l_0, ())) w :=
  pc_end (T := seglog_Log_First_0 R l_0 w) hmix (by kernel_rfl) h
theorem seglog_Log_First_call (R : Int → World → Prop) (l_0 : Option Addr) (w : World) (h : seglog_Log_First_0 R l_0 w) : mcall P n_seglog_Log_First [(.pointer l_0)] I R w :=
  pc_top (T := (seglog_Log_First_0 R l_0) w) (l := seglog_Log_First_l1) (F := fun (x : Option Addr × Unit) => seglog_Log_First_0 R x.1) (n := 9) (c := seglog_Log_First_B) Tryz.func47 rfl (by kernel_rfl) (by kernel_rfl) (by kernel_rfl) (fun x w h => seglog_Log_First_0_ok R x.1 w h) (by kernel_rfl) h
/- (*headgate seglog.Log).Next -/
noncomputable abbrev seglog_Log_Next_B : Code := (Tryz.f48.body).getD .skip
abbrev seglog_Log_Next_l1 : Slots := [(0, .p)]
def seglog_Log_Next_0 (R : Int → World → Prop) (l_0 : Option Addr) : World → Prop :=
 meq P .eql t_ptr_seglog_Log (.pointer l_0) (.pointer none) fun (x1 : Bool) =>
 mif x1
 (R 0)
 (mnil l_0 fun a2 =>
 ld P t_int (ad a2 4) I fun (x3 : Int) =>
 R x3)
theorem seglog_Log_Next_0_ok (R : Int → World → Prop) (l_0 : Option Addr) (w : World) (h : seglog_Log_Next_0 R l_0 w) : WPC P 9 [] (Code.at seglog_Log_Next_B []) (topQ P [.tmp 2] I R) (mkE 9 seglog_Log_Next_l1 (l_0, ())) w :=
  pc_end (T := seglog_Log_Next_0 R l_0 w) hmix (by kernel_rfl) h
theorem seglog_Log_Next_call (R : Int → World → Prop) (l_0 : Option Addr) (w : World) (h : seglog_Log_Next_0 R l_0 w) : mcall P n_seglog_Log_Next [(.pointer l_0)] I R w :=
  pc_top (T := (seglog_Log_Next_0 R l_0) w) (l := seglog_Log_Next_l1) (F := fun (x : Option Addr × Unit) => seglog_Log_Next_0 R x.1) (n := 9) (c := seglog_Log_Next_B) Tryz.func48 rfl (by kernel_rfl) (by kernel_rfl) (by kernel_rfl) (fun x w h => seglog_Log_Next_0_ok R x.1 w h) (by kernel_rfl) h
end Go.Proofs.YtegjokkkdkaphaaGreatDoor
