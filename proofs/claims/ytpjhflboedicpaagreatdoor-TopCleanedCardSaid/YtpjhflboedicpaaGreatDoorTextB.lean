/- Short texts of functions of the program, each with the proof that a call comes to it. No condition. -/
import Derived.Test.YtpjhflboedicpaaGreatDoorNames
set_option linter.unusedVariables false
set_option linter.unusedSimpArgs false
namespace Go.Proofs.YtpjhflboedicpaaGreatDoor
open Go Go.W
set_option maxRecDepth 100000
noncomputable abbrev zf6_B : Code := (Tryz.f9.body).getD .skip
abbrev zf6_q1 (R : (zT1 × Sl × Int × Unit) → World → Prop) := (topQ P [.cell 6 zt9, .tmp 7, .tmp 8] (.tup [zk1, .sl, I]) R)
abbrev zf6_l1 : Slots := [(0, zk0), (1, zk1), (2, zk2)]
abbrev zf6_l2 : Slots := [(3, .ad), (4, .ad), (5, .ad), (6, .ad), (9, I), (11, .sl), (13, .sl), (14, I)]
abbrev zf6_l3 : Slots := [(3, .ad), (4, .ad), (5, .ad), (6, .ad), (13, .sl), (14, I)]
abbrev zf6_l4 : Slots := [(3, .ad), (4, .ad), (5, .ad), (6, .ad), (13, .sl)]
abbrev zf6_l5 : Slots := [(3, .ad), (4, .ad), (6, .ad), (13, .sl)]
abbrev zf6_l6 : Slots := [(3, .ad), (4, .ad), (6, .ad), (13, .sl), (16, .sl), (17, .sl)]
abbrev zf6_l7 : Slots := [(4, .ad), (6, .ad), (16, .sl), (17, .sl)]
def zf6_6 (R : (zT1 × Sl × Int × Unit) → World → Prop) (s_4 : Addr) (v6 : Addr) (open_16 : Sl) (over_17 : Sl) : World → Prop :=
 sto P zt8 (ad s_4 4) .sl open_16 <|
 ld P zt9 s_4 zk1 fun (x36 : zT1) =>
 sto P zt9 v6 zk1 x36 <|
 ld P zt9 v6 zk1 fun (x37 : zT1) =>
 R (x37, over_17, 0, ())
abbrev zf6_q2 (R : (zT1 × Sl × Int × Unit) → World → Prop) := (thenQ (fun env => getE env zf6_l7 fun (x : Addr × Addr × Sl × Sl × Unit) => zf6_6 R x.1 x.2.1 x.2.2.1 x.2.2.2.1) (zf6_q1 R))
abbrev zf6_l8 : Slots := [(3, .ad), (4, .ad), (6, .ad), (13, .sl), (16, .sl), (17, .sl)]
abbrev zf6_l9 : Slots := [(16, .sl), (17, .sl), (18, I)]
abbrev zf6_l10 : Slots := [(3, .ad), (4, .ad), (6, .ad), (13, .sl)]
abbrev zf6_q3 (c1 : (Sl × Sl × Int × Unit) → (Addr × Addr × Addr × Sl × Unit) → World → Prop) (R : (zT1 × Sl × Int × Unit) → World → Prop) := (thenQ (fun env => getE env zf6_l9 fun (s : Sl × Sl × Int × Unit) => getE env zf6_l10 (c1 s)) (blockQ 2 ((zf6_q2 R) .normal) (zf6_q2 R)))
abbrev zf6_l11 : Slots := [(3, .ad), (4, .ad), (6, .ad), (13, .sl), (16, .sl), (17, .sl), (18, I)]
def zf6_10 (c1 : (Sl × Sl × Int × Unit) → (Addr × Addr × Addr × Sl × Unit) → World → Prop) (R : (zT1 × Sl × Int × Unit) → World → Prop) (g_3 : Addr) (s_4 : Addr) (v6 : Addr) (l_13 : Sl) (open_16 : Sl) (over_17 : Sl) (i_18 : Int) : World → Prop :=
 c1 (open_16, over_17, w64 (i_18 + 1), ()) (g_3, s_4, v6, l_13, ())
def zf6_9 (c1 : (Sl × Sl × Int × Unit) → (Addr × Addr × Addr × Sl × Unit) → World → Prop) (R : (zT1 × Sl × Int × Unit) → World → Prop) (open_16 : Sl) (over_17 : Sl) (i_18 : Int) (g_3 : Addr) (s_4 : Addr) (v6 : Addr) (l_13 : Sl) : World → Prop :=
 mif (decide (i_18 < (l_13.len : Int)))
 (mdraw <|
 ld P zt5 g_3 zk0 fun (x38 : zT0) =>
 ixa P zt8 (Sl.v l_13) i_18 fun x39 =>
 ld P zt1 (ad x39 1) I fun (x40 : Int) =>
 ld P zt1 s_4 I fun (x41 : Int) =>
 mcall P n_zfj [(KV zk0 x38), (.int .i64 x40), (.int .i64 x41)] .b fun (x42 : Bool) =>
 mif x42
 (ixa P zt8 (Sl.v l_13) i_18 fun x43 =>
 ld P zth x43 zk6 fun (x44 : zT6) =>
 bsl P zt8 zk6 [x44] fun x45 =>
 app P #[zt8, zt8] zt8 (Sl.v over_17) (Sl.v x45) fun x46 =>
 zf6_10 c1 R g_3 s_4 v6 l_13 open_16 x46 i_18)
 (ixa P zt8 (Sl.v l_13) i_18 fun x47 =>
 ld P zth x47 zk6 fun (x48 : zT6) =>
 bsl P zt8 zk6 [x48] fun x49 =>
 app P #[zt8, zt8] zt8 (Sl.v open_16) (Sl.v x49) fun x50 =>
 zf6_10 c1 R g_3 s_4 v6 l_13 x50 over_17 i_18))
 (zf6_6 R s_4 v6 open_16 over_17)
def zf6_8 (R : (zT1 × Sl × Int × Unit) → World → Prop) (open_16 : Sl) (over_17 : Sl) (i_18 : Int) (g_3 : Addr) (s_4 : Addr) (v6 : Addr) (l_13 : Sl) : World → Prop :=
 W.Loop (g_3, s_4, v6, l_13, ()) (fun (c1 : (Sl × Sl × Int × Unit) → (Addr × Addr × Addr × Sl × Unit) → World → Prop) (s : Sl × Sl × Int × Unit) => zf6_9 c1 R s.1 s.2.1 s.2.2.1 g_3 s_4 v6 l_13) (open_16, over_17, i_18, ())
def zf6_7 (R : (zT1 × Sl × Int × Unit) → World → Prop) (g_3 : Addr) (s_4 : Addr) (v6 : Addr) (l_13 : Sl) (open_16 : Sl) (over_17 : Sl) : World → Prop :=
 zf6_8 R open_16 over_17 0 g_3 s_4 v6 l_13
def zf6_5 (R : (zT1 × Sl × Int × Unit) → World → Prop) (g_3 : Addr) (s_4 : Addr) (v6 : Addr) (l_13 : Sl) (open_16 : Sl) (over_17 : Sl) : World → Prop :=
 zf6_7 R g_3 s_4 v6 l_13 open_16 over_17
def zf6_4 (R : (zT1 × Sl × Int × Unit) → World → Prop) (g_3 : Addr) (s_4 : Addr) (v6 : Addr) (l_13 : Sl) : World → Prop :=
 zf6_5 R g_3 s_4 v6 l_13 ⟨none, 0, 0⟩ ⟨none, 0, 0⟩
def zf6_3 (R : (zT1 × Sl × Int × Unit) → World → Prop) (g_3 : Addr) (s_4 : Addr) (r_5 : Addr) (v6 : Addr) (l_13 : Sl) : World → Prop :=
 ld P zt1 (ad r_5 1) I fun (x33 : Int) =>
 ld P zt1 s_4 I fun (x34 : Int) =>
 mif (decide (x33 > x34))
 (ld P zt1 (ad r_5 1) I fun (x35 : Int) =>
 sto P zt1 s_4 I x35 <|
 zf6_4 R g_3 s_4 v6 l_13)
 (zf6_4 R g_3 s_4 v6 l_13)
def zf6_2 (R : (zT1 × Sl × Int × Unit) → World → Prop) (g_3 : Addr) (s_4 : Addr) (r_5 : Addr) (v6 : Addr) (l_13 : Sl) (n_14 : Int) : World → Prop :=
 mif (n_14 == 0)
 (ld P zt1 (ad s_4 1) I fun (x29 : Int) =>
 sto P zt1 (ad s_4 1) I (w64 (x29 + 1)) <|
 ld P zt8 (ad s_4 4) .sl fun (x30 : Sl) =>
 zf6_3 R g_3 s_4 r_5 v6 x30)
 (mif (decide ((l_13.len : Int) > 64))
 (ld P zt1 (ad s_4 1) I fun (x31 : Int) =>
 sto P zt1 (ad s_4 1) I (w64 (x31 + 1)) <|
 ld P zt8 (ad s_4 4) .sl fun (x32 : Sl) =>
 zf6_3 R g_3 s_4 r_5 v6 x32)
 (zf6_3 R g_3 s_4 r_5 v6 l_13))
abbrev zf6_q4 (R : (zT1 × Sl × Int × Unit) → World → Prop) := (thenQ (fun env => getE env zf6_l3 fun (x : Addr × Addr × Addr × Addr × Sl × Int × Unit) => zf6_2 R x.1 x.2.1 x.2.2.1 x.2.2.2.1 x.2.2.2.2.1 x.2.2.2.2.2.1) (zf6_q1 R))
abbrev zf6_l12 : Slots := [(3, .ad), (4, .ad), (5, .ad), (6, .ad), (9, I), (11, .sl), (13, .sl), (14, I)]
abbrev zf6_l13 : Slots := [(13, .sl), (14, I), (15, I)]
abbrev zf6_l14 : Slots := [(3, .ad), (4, .ad), (5, .ad), (6, .ad), (9, I), (11, .sl)]
abbrev zf6_q5 (c1 : (Sl × Int × Int × Unit) → (Addr × Addr × Addr × Addr × Int × Sl × Unit) → World → Prop) (R : (zT1 × Sl × Int × Unit) → World → Prop) := (thenQ (fun env => getE env zf6_l13 fun (s : Sl × Int × Int × Unit) => getE env zf6_l14 (c1 s)) (blockQ 0 ((zf6_q4 R) .normal) (zf6_q4 R)))
abbrev zf6_l15 : Slots := [(3, .ad), (4, .ad), (5, .ad), (6, .ad), (9, I), (11, .sl), (13, .sl), (14, I), (15, I)]
def zf6_14 (c1 : (Sl × Int × Int × Unit) → (Addr × Addr × Addr × Addr × Int × Sl × Unit) → World → Prop) (R : (zT1 × Sl × Int × Unit) → World → Prop) (g_3 : Addr) (s_4 : Addr) (r_5 : Addr) (v6 : Addr) (v_9 : Int) (starts_11 : Sl) (l_13 : Sl) (n_14 : Int) (i_15 : Int) : World → Prop :=
 c1 (l_13, n_14, w64 (i_15 + 1), ()) (g_3, s_4, r_5, v6, v_9, starts_11, ())
def zf6_13 (c1 : (Sl × Int × Int × Unit) → (Addr × Addr × Addr × Addr × Int × Sl × Unit) → World → Prop) (R : (zT1 × Sl × Int × Unit) → World → Prop) (l_13 : Sl) (n_14 : Int) (i_15 : Int) (g_3 : Addr) (s_4 : Addr) (r_5 : Addr) (v6 : Addr) (v_9 : Int) (starts_11 : Sl) : World → Prop :=
 mif (decide (i_15 < (starts_11.len : Int)))
 (mdraw <|
 ld P zt5 g_3 zk0 fun (x51 : zT0) =>
 ixa P zt7 (Sl.v starts_11) i_15 fun x52 =>
 ld P zt1 x52 I fun (x53 : Int) =>
 ld P zt1 s_4 I fun (x54 : Int) =>
 mcall P n_zfj [(KV zk0 x51), (.int .i64 x53), (.int .i64 x54)] .b fun (x55 : Bool) =>
 mif (!x55)
 (mdraw <|
 ld P zt1 r_5 I fun (x56 : Int) =>
 ixa P zt7 (Sl.v starts_11) i_15 fun x57 =>
 ld P zt1 x57 I fun (x58 : Int) =>
 mcall P n_zf12 [(Sl.v l_13), (.int .i64 x56), (.int .i64 x58), (.int .i64 v_9)] .sl fun (x59 : Sl) =>
 zf6_14 c1 R g_3 s_4 r_5 v6 v_9 starts_11 x59 (w64 (n_14 + 1)) i_15)
 (zf6_14 c1 R g_3 s_4 r_5 v6 v_9 starts_11 l_13 n_14 i_15))
 (zf6_2 R g_3 s_4 r_5 v6 l_13 n_14)
def zf6_12 (R : (zT1 × Sl × Int × Unit) → World → Prop) (l_13 : Sl) (n_14 : Int) (i_15 : Int) (g_3 : Addr) (s_4 : Addr) (r_5 : Addr) (v6 : Addr) (v_9 : Int) (starts_11 : Sl) : World → Prop :=
 W.Loop (g_3, s_4, r_5, v6, v_9, starts_11, ()) (fun (c1 : (Sl × Int × Int × Unit) → (Addr × Addr × Addr × Addr × Int × Sl × Unit) → World → Prop) (s : Sl × Int × Int × Unit) => zf6_13 c1 R s.1 s.2.1 s.2.2.1 g_3 s_4 r_5 v6 v_9 starts_11) (l_13, n_14, i_15, ())
def zf6_11 (R : (zT1 × Sl × Int × Unit) → World → Prop) (g_3 : Addr) (s_4 : Addr) (r_5 : Addr) (v6 : Addr) (v_9 : Int) (starts_11 : Sl) (l_13 : Sl) (n_14 : Int) : World → Prop :=
 zf6_12 R l_13 n_14 0 g_3 s_4 r_5 v6 v_9 starts_11
def zf6_1 (R : (zT1 × Sl × Int × Unit) → World → Prop) (g_3 : Addr) (s_4 : Addr) (r_5 : Addr) (v6 : Addr) (v_9 : Int) (starts_11 : Sl) (l_13 : Sl) (n_14 : Int) : World → Prop :=
 zf6_11 R g_3 s_4 r_5 v6 v_9 starts_11 l_13 n_14
def zf6_0 (R : (zT1 × Sl × Int × Unit) → World → Prop) (g_0 : zT0) (s_1 : zT1) (r_2 : zT2) : World → Prop :=
 bx P zt5 zk0 g_0 fun a1 =>
 bx P zt9 zk1 s_1 fun a2 =>
 bx P ztc zk2 r_2 fun a3 =>
 alo P zt9 fun a4 =>
 ld P zt5 a1 zk0 fun (x5 : zT0) =>
 ld P zt9 a2 zk1 fun (x6 : zT1) =>
 mcall P n_zf2 [(KV zk0 x5), (KV zk1 x6)] .b fun (x7 : Bool) =>
 mif (!x7)
 (sto P zt9 a4 zk1 (0, 0, 0, 0, ⟨none, 0, 0⟩, ()) <|
 ld P zt9 a4 zk1 fun (x8 : zT1) =>
 R (x8, ⟨none, 0, 0⟩, 1, ()))
 (ld P zt1 a3 I fun (x9 : Int) =>
 mcall P n_zfi [(.int .i64 x9)] .b fun (x10 : Bool) =>
 mif (!x10)
 (sto P zt9 a4 zk1 (0, 0, 0, 0, ⟨none, 0, 0⟩, ()) <|
 ld P zt9 a4 zk1 fun (x11 : zT1) =>
 R (x11, ⟨none, 0, 0⟩, 1, ()))
 (ld P zt1 a3 I fun (x12 : Int) =>
 mif (decide (x12 > 1048576))
 (sto P zt9 a4 zk1 (0, 0, 0, 0, ⟨none, 0, 0⟩, ()) <|
 ld P zt9 a4 zk1 fun (x13 : zT1) =>
 R (x13, ⟨none, 0, 0⟩, 1, ()))
 (ld P zt1 (ad a3 1) I fun (x14 : Int) =>
 mcall P n_zfi [(.int .i64 x14)] .b fun (x15 : Bool) =>
 mif (!x15)
 (sto P zt9 a4 zk1 (0, 0, 0, 0, ⟨none, 0, 0⟩, ()) <|
 ld P zt9 a4 zk1 fun (x16 : zT1) =>
 R (x16, ⟨none, 0, 0⟩, 1, ()))
 (ld P zt1 (ad a2 3) I fun (x17 : Int) =>
 mif (x17 == 1099511627776)
 (sto P zt9 a4 zk1 (0, 0, 0, 0, ⟨none, 0, 0⟩, ()) <|
 ld P zt9 a4 zk1 fun (x18 : zT1) =>
 R (x18, ⟨none, 0, 0⟩, 6, ()))
 (ld P zt1 (ad a2 3) I fun (x19 : Int) =>
 sto P zt1 (ad a2 3) I (w64 (x19 + 1)) <|
 ld P ztc a3 zk2 fun (x20 : zT2) =>
 mcall P n_zf10 [(KV zk2 x20)] (.tup [I, .b]) fun (x21 : Int × Bool × Unit) =>
 mif (!x21.2.1)
 (ld P zt1 (ad a2 2) I fun (x22 : Int) =>
 sto P zt1 (ad a2 2) I (w64 (x22 + 1)) <|
 ld P zt9 a2 zk1 fun (x23 : zT1) =>
 sto P zt9 a4 zk1 x23 <|
 ld P zt9 a4 zk1 fun (x24 : zT1) =>
 R (x24, ⟨none, 0, 0⟩, 0, ()))
 (ld P zt5 a1 zk0 fun (x25 : zT0) =>
 ld P zt1 (ad a3 1) I fun (x26 : Int) =>
 mcall P n_zf11 [(KV zk0 x25), (.int .i64 x26)] (.tup [.sl, I]) fun (x27 : Sl × Int × Unit) =>
 ld P zt8 (ad a2 4) .sl fun (x28 : Sl) =>
 zf6_1 R a1 a2 a3 a4 x21.1 x27.1 x28 0))))))
theorem zf6_6_ok (R : (zT1 × Sl × Int × Unit) → World → Prop) (x : Addr × Addr × Sl × Sl × Unit) (w : World) (h : zf6_6 R x.1 x.2.1 x.2.2.1 x.2.2.2.1 w) : WPC P 150 [] (Code.at zf6_B [.snd, .snd, .snd, .snd, .snd, .snd, .snd, .snd, .snd, .snd, .snd, .snd, .snd, .snd]) (zf6_q1 R) (mkE 150 zf6_l7 x) w :=
  pc_end h
theorem zf6_10_ok (c1 : (Sl × Sl × Int × Unit) → (Addr × Addr × Addr × Sl × Unit) → World → Prop) (R : (zT1 × Sl × Int × Unit) → World → Prop) (x : Addr × Addr × Addr × Sl × Sl × Sl × Int × Unit) (w : World) (h : zf6_10 c1 R x.1 x.2.1 x.2.2.1 x.2.2.2.1 x.2.2.2.2.1 x.2.2.2.2.2.1 x.2.2.2.2.2.2.1 w) : WPC P 150 [] (Code.at zf6_B [.snd, .snd, .snd, .snd, .snd, .snd, .snd, .snd, .snd, .snd, .snd, .snd, .snd, .fst, .snd, .blk, .blk, .snd, .snd]) (zf6_q3 c1 R) (mkE 150 zf6_l11 x) w :=
  pc_end h
theorem zf6_9_ok (c1 : (Sl × Sl × Int × Unit) → (Addr × Addr × Addr × Sl × Unit) → World → Prop) (R : (zT1 × Sl × Int × Unit) → World → Prop) (x : Sl × Sl × Int × Unit) (y : Addr × Addr × Addr × Sl × Unit) (w : World) (h : zf6_9 c1 R x.1 x.2.1 x.2.2.1 y.1 y.2.1 y.2.2.1 y.2.2.2.1 w) : WPC P 150 [] (Code.at zf6_B [.snd, .snd, .snd, .snd, .snd, .snd, .snd, .snd, .snd, .snd, .snd, .snd, .snd, .fst, .snd, .blk, .blk]) (zf6_q3 c1 R) (mkE2 150 zf6_l9 zf6_l10 x y) w :=
  pc_cut (l := zf6_l11) 2 (zf6_10_ok c1 R) h
theorem zf6_8_ok (R : (zT1 × Sl × Int × Unit) → World → Prop) (x : Sl × Sl × Int × Unit) (y : Addr × Addr × Addr × Sl × Unit) (w : World) (h : zf6_8 R x.1 x.2.1 x.2.2.1 y.1 y.2.1 y.2.2.1 y.2.2.2.1 w) : WPC P 150 [] (Code.at zf6_B [.snd, .snd, .snd, .snd, .snd, .snd, .snd, .snd, .snd, .snd, .snd, .snd, .snd, .fst, .snd]) (zf6_q2 R) (mkE2 150 zf6_l9 zf6_l10 x y) w :=
  pc_loopE (l := zf6_l9) (l' := zf6_l10) (id := 2) (b := (Code.at zf6_B [.snd, .snd, .snd, .snd, .snd, .snd, .snd, .snd, .snd, .snd, .snd, .snd, .snd, .fst, .snd, .blk, .blk])) (fun c1 s => zf6_9_ok c1 R s y) h
theorem zf6_7_ok (R : (zT1 × Sl × Int × Unit) → World → Prop) (x : Addr × Addr × Addr × Sl × Sl × Sl × Unit) (w : World) (h : zf6_7 R x.1 x.2.1 x.2.2.1 x.2.2.2.1 x.2.2.2.2.1 x.2.2.2.2.2.1 w) : WPC P 150 [] (Code.at zf6_B [.snd, .snd, .snd, .snd, .snd, .snd, .snd, .snd, .snd, .snd, .snd, .snd, .snd, .fst]) (zf6_q2 R) (mkE 150 zf6_l8 x) w :=
  pc_cut2 (l := zf6_l9) (l' := zf6_l10) 1 (zf6_8_ok R) h
theorem zf6_5_ok (R : (zT1 × Sl × Int × Unit) → World → Prop) (x : Addr × Addr × Addr × Sl × Sl × Sl × Unit) (w : World) (h : zf6_5 R x.1 x.2.1 x.2.2.1 x.2.2.2.1 x.2.2.2.2.1 x.2.2.2.2.2.1 w) : WPC P 150 [] (Code.at zf6_B [.snd, .snd, .snd, .snd, .snd, .snd, .snd, .snd, .snd, .snd, .snd, .snd, .snd]) (zf6_q1 R) (mkE 150 zf6_l6 x) w :=
  pc_seq (l := zf6_l7) (a := (Code.at zf6_B [.snd, .snd, .snd, .snd, .snd, .snd, .snd, .snd, .snd, .snd, .snd, .snd, .snd, .fst])) (b := (Code.at zf6_B [.snd, .snd, .snd, .snd, .snd, .snd, .snd, .snd, .snd, .snd, .snd, .snd, .snd, .snd])) (pc_cut (l := zf6_l8) (c := (Code.at zf6_B [.snd, .snd, .snd, .snd, .snd, .snd, .snd, .snd, .snd, .snd, .snd, .snd, .snd, .fst])) 0 (zf6_7_ok R) h) (zf6_6_ok R)
theorem zf6_4_ok (R : (zT1 × Sl × Int × Unit) → World → Prop) (x : Addr × Addr × Addr × Sl × Unit) (w : World) (h : zf6_4 R x.1 x.2.1 x.2.2.1 x.2.2.2.1 w) : WPC P 150 [] (Code.at zf6_B [.snd, .snd, .snd, .snd, .snd, .snd, .snd, .snd, .snd, .snd, .snd, .snd]) (zf6_q1 R) (mkE 150 zf6_l5 x) w :=
  pc_cut (l := zf6_l6) 1 (zf6_5_ok R) h
theorem zf6_3_ok (R : (zT1 × Sl × Int × Unit) → World → Prop) (x : Addr × Addr × Addr × Addr × Sl × Unit) (w : World) (h : zf6_3 R x.1 x.2.1 x.2.2.1 x.2.2.2.1 x.2.2.2.2.1 w) : WPC P 150 [] (Code.at zf6_B [.snd, .snd, .snd, .snd, .snd, .snd, .snd, .snd, .snd, .snd, .snd]) (zf6_q1 R) (mkE 150 zf6_l4 x) w :=
  pc_cut (l := zf6_l5) 1 (zf6_4_ok R) h
theorem zf6_2_ok (R : (zT1 × Sl × Int × Unit) → World → Prop) (x : Addr × Addr × Addr × Addr × Sl × Int × Unit) (w : World) (h : zf6_2 R x.1 x.2.1 x.2.2.1 x.2.2.2.1 x.2.2.2.2.1 x.2.2.2.2.2.1 w) : WPC P 150 [] (Code.at zf6_B [.snd, .snd, .snd, .snd, .snd, .snd, .snd, .snd, .snd, .snd]) (zf6_q1 R) (mkE 150 zf6_l3 x) w :=
  pc_cut (l := zf6_l4) 1 (zf6_3_ok R) h
theorem zf6_14_ok (c1 : (Sl × Int × Int × Unit) → (Addr × Addr × Addr × Addr × Int × Sl × Unit) → World → Prop) (R : (zT1 × Sl × Int × Unit) → World → Prop) (x : Addr × Addr × Addr × Addr × Int × Sl × Sl × Int × Int × Unit) (w : World) (h : zf6_14 c1 R x.1 x.2.1 x.2.2.1 x.2.2.2.1 x.2.2.2.2.1 x.2.2.2.2.2.1 x.2.2.2.2.2.2.1 x.2.2.2.2.2.2.2.1 x.2.2.2.2.2.2.2.2.1 w) : WPC P 150 [] (Code.at zf6_B [.snd, .snd, .snd, .snd, .snd, .snd, .snd, .snd, .snd, .fst, .snd, .blk, .blk, .snd, .snd]) (zf6_q5 c1 R) (mkE 150 zf6_l15 x) w :=
  pc_end h
theorem zf6_13_ok (c1 : (Sl × Int × Int × Unit) → (Addr × Addr × Addr × Addr × Int × Sl × Unit) → World → Prop) (R : (zT1 × Sl × Int × Unit) → World → Prop) (x : Sl × Int × Int × Unit) (y : Addr × Addr × Addr × Addr × Int × Sl × Unit) (w : World) (h : zf6_13 c1 R x.1 x.2.1 x.2.2.1 y.1 y.2.1 y.2.2.1 y.2.2.2.1 y.2.2.2.2.1 y.2.2.2.2.2.1 w) : WPC P 150 [] (Code.at zf6_B [.snd, .snd, .snd, .snd, .snd, .snd, .snd, .snd, .snd, .fst, .snd, .blk, .blk]) (zf6_q5 c1 R) (mkE2 150 zf6_l13 zf6_l14 x y) w :=
  pc_cut (l := zf6_l15) 2 (zf6_14_ok c1 R) h
theorem zf6_12_ok (R : (zT1 × Sl × Int × Unit) → World → Prop) (x : Sl × Int × Int × Unit) (y : Addr × Addr × Addr × Addr × Int × Sl × Unit) (w : World) (h : zf6_12 R x.1 x.2.1 x.2.2.1 y.1 y.2.1 y.2.2.1 y.2.2.2.1 y.2.2.2.2.1 y.2.2.2.2.2.1 w) : WPC P 150 [] (Code.at zf6_B [.snd, .snd, .snd, .snd, .snd, .snd, .snd, .snd, .snd, .fst, .snd]) (zf6_q4 R) (mkE2 150 zf6_l13 zf6_l14 x y) w :=
  pc_loopE (l := zf6_l13) (l' := zf6_l14) (id := 0) (b := (Code.at zf6_B [.snd, .snd, .snd, .snd, .snd, .snd, .snd, .snd, .snd, .fst, .snd, .blk, .blk])) (fun c1 s => zf6_13_ok c1 R s y) h
theorem zf6_11_ok (R : (zT1 × Sl × Int × Unit) → World → Prop) (x : Addr × Addr × Addr × Addr × Int × Sl × Sl × Int × Unit) (w : World) (h : zf6_11 R x.1 x.2.1 x.2.2.1 x.2.2.2.1 x.2.2.2.2.1 x.2.2.2.2.2.1 x.2.2.2.2.2.2.1 x.2.2.2.2.2.2.2.1 w) : WPC P 150 [] (Code.at zf6_B [.snd, .snd, .snd, .snd, .snd, .snd, .snd, .snd, .snd, .fst]) (zf6_q4 R) (mkE 150 zf6_l12 x) w :=
  pc_cut2 (l := zf6_l13) (l' := zf6_l14) 1 (zf6_12_ok R) h
theorem zf6_1_ok (R : (zT1 × Sl × Int × Unit) → World → Prop) (x : Addr × Addr × Addr × Addr × Int × Sl × Sl × Int × Unit) (w : World) (h : zf6_1 R x.1 x.2.1 x.2.2.1 x.2.2.2.1 x.2.2.2.2.1 x.2.2.2.2.2.1 x.2.2.2.2.2.2.1 x.2.2.2.2.2.2.2.1 w) : WPC P 150 [] (Code.at zf6_B [.snd, .snd, .snd, .snd, .snd, .snd, .snd, .snd, .snd]) (zf6_q1 R) (mkE 150 zf6_l2 x) w :=
  pc_seq (l := zf6_l3) (a := (Code.at zf6_B [.snd, .snd, .snd, .snd, .snd, .snd, .snd, .snd, .snd, .fst])) (b := (Code.at zf6_B [.snd, .snd, .snd, .snd, .snd, .snd, .snd, .snd, .snd, .snd])) (pc_cut (l := zf6_l12) (c := (Code.at zf6_B [.snd, .snd, .snd, .snd, .snd, .snd, .snd, .snd, .snd, .fst])) 0 (zf6_11_ok R) h) (zf6_2_ok R)
theorem zf6_0_ok (R : (zT1 × Sl × Int × Unit) → World → Prop) (x : zT0 × zT1 × zT2 × Unit) (w : World) (h : zf6_0 R x.1 x.2.1 x.2.2.1 w) : WPC P 150 [] (Code.at zf6_B []) (zf6_q1 R) (mkE 150 zf6_l1 x) w :=
  pc_cut (l := zf6_l2) 9 (zf6_1_ok R) h
theorem zf6_call (R : (zT1 × Sl × Int × Unit) → World → Prop) (g_0 : zT0) (s_1 : zT1) (r_2 : zT2) (w : World) (h : zf6_0 R g_0 s_1 r_2 w) : mcall P n_zf6 [(KV zk0 g_0), (KV zk1 s_1), (KV zk2 r_2)] (.tup [zk1, .sl, I]) R w :=
  pc_top (l := zf6_l1) (c := zf6_B) Tryz.func9 (zf6_0_ok R) h
noncomputable abbrev zf7_B : Code := (Tryz.f10.body).getD .skip
abbrev zf7_q1 (R : Sl → World → Prop) := (topQ P [.tmp 4] .sl R)
abbrev zf7_l1 : Slots := [(0, zk1), (1, zk1)]
abbrev zf7_l2 : Slots := [(2, .ad), (3, .ad)]
abbrev zf7_l3 : Slots := [(2, .ad), (3, .ad)]
abbrev zf7_l4 : Slots := [(2, .ad), (3, .ad), (5, .sl)]
abbrev zf7_l5 : Slots := [(5, .sl), (6, .sl), (7, .sl)]
abbrev zf7_l6 : Slots := []
abbrev zf7_l7 : Slots := [(5, .sl)]
def zf7_5 (R : Sl → World → Prop) (l_5 : Sl) : World → Prop :=
 R l_5
abbrev zf7_q2 (c1 : (Sl × Sl × Sl × Unit) → Unit → World → Prop) (R : Sl → World → Prop) := (thenQ (fun env => getE env zf7_l5 fun (s : Sl × Sl × Sl × Unit) => getE env zf7_l6 (c1 s)) (blockQ 0 (fun env => getE env zf7_l7 fun (x : Sl × Unit) => zf7_5 R x.1) (noGotoQ (zf7_q1 R))))
def zf7_6 (c1 : (Sl × Sl × Sl × Unit) → Unit → World → Prop) (R : Sl → World → Prop) (l_5 : Sl) (a_6 : Sl) (b_7 : Sl) : World → Prop :=
 mif ((a_6.len : Int) == 0)
 (mif ((b_7.len : Int) == 0)
 (zf7_5 R l_5)
 (mdraw <|
 mif ((b_7.len : Int) == 0)
 (ixa P zt8 (Sl.v a_6) 0 fun x29 =>
 ld P zth x29 zk6 fun (x30 : zT6) =>
 mcall P n_zf15 [(KV zk6 x30), (.int .i64 2)] zk2 fun (x31 : zT2) =>
 bsl P zt6 zk2 [x31] fun x32 =>
 app P #[zt6, zt6] zt6 (Sl.v l_5) (Sl.v x32) fun x33 =>
 slc P zt8 a_6 (some 1) none fun x34 =>
 c1 (x33, x34, b_7, ()) (()))
 (mif (decide ((a_6.len : Int) > 0))
 (ixa P zt8 (Sl.v a_6) 0 fun x35 =>
 ld P zth x35 zk6 fun (x36 : zT6) =>
 ixa P zt8 (Sl.v b_7) 0 fun x37 =>
 ld P zth x37 zk6 fun (x38 : zT6) =>
 mcall P n_zf14 [(KV zk6 x36), (KV zk6 x38)] .b fun (x39 : Bool) =>
 mif x39
 (ixa P zt8 (Sl.v a_6) 0 fun x40 =>
 ld P zth x40 zk6 fun (x41 : zT6) =>
 mcall P n_zf15 [(KV zk6 x41), (.int .i64 2)] zk2 fun (x42 : zT2) =>
 bsl P zt6 zk2 [x42] fun x43 =>
 app P #[zt6, zt6] zt6 (Sl.v l_5) (Sl.v x43) fun x44 =>
 slc P zt8 a_6 (some 1) none fun x45 =>
 c1 (x44, x45, b_7, ()) (()))
 (mdraw <|
 mif ((a_6.len : Int) == 0)
 (ixa P zt8 (Sl.v b_7) 0 fun x46 =>
 ld P zth x46 zk6 fun (x47 : zT6) =>
 mcall P n_zf15 [(KV zk6 x47), (.int .i64 1)] zk2 fun (x48 : zT2) =>
 bsl P zt6 zk2 [x48] fun x49 =>
 app P #[zt6, zt6] zt6 (Sl.v l_5) (Sl.v x49) fun x50 =>
 slc P zt8 b_7 (some 1) none fun x51 =>
 c1 (x50, a_6, x51, ()) (()))
 (ixa P zt8 (Sl.v b_7) 0 fun x52 =>
 ld P zth x52 zk6 fun (x53 : zT6) =>
 ixa P zt8 (Sl.v a_6) 0 fun x54 =>
 ld P zth x54 zk6 fun (x55 : zT6) =>
 mcall P n_zf14 [(KV zk6 x53), (KV zk6 x55)] .b fun (x56 : Bool) =>
 mif x56
 (ixa P zt8 (Sl.v b_7) 0 fun x57 =>
 ld P zth x57 zk6 fun (x58 : zT6) =>
 mcall P n_zf15 [(KV zk6 x58), (.int .i64 1)] zk2 fun (x59 : zT2) =>
 bsl P zt6 zk2 [x59] fun x60 =>
 app P #[zt6, zt6] zt6 (Sl.v l_5) (Sl.v x60) fun x61 =>
 slc P zt8 b_7 (some 1) none fun x62 =>
 c1 (x61, a_6, x62, ()) (()))
 (mdraw <|
 ixa P zt8 (Sl.v a_6) 0 fun x63 =>
 ld P zth x63 zk6 fun (x64 : zT6) =>
 ixa P zt8 (Sl.v b_7) 0 fun x65 =>
 ld P zth x65 zk6 fun (x66 : zT6) =>
 meq P .neq zth (KV zk6 x64) (KV zk6 x66) fun x67 =>
 mif x67
 (ixa P zt8 (Sl.v b_7) 0 fun x68 =>
 ld P zth x68 zk6 fun (x69 : zT6) =>
 mcall P n_zf15 [(KV zk6 x69), (.int .i64 1)] zk2 fun (x70 : zT2) =>
 bsl P zt6 zk2 [x70] fun x71 =>
 app P #[zt6, zt6] zt6 (Sl.v l_5) (Sl.v x71) fun x72 =>
 mdraw <|
 slc P zt8 a_6 (some 1) none fun x73 =>
 slc P zt8 b_7 (some 1) none fun x74 =>
 mst P (Instr.sliceAt zt8 (.slice b_7.a b_7.len b_7.cap) (some (.int .i64 1)) none none) (.slice x74.a x74.len x74.cap) <|
 c1 (x72, x73, x74, ()) (()))
 (mdraw <|
 slc P zt8 a_6 (some 1) none fun x75 =>
 slc P zt8 b_7 (some 1) none fun x76 =>
 mst P (Instr.sliceAt zt8 (.slice b_7.a b_7.len b_7.cap) (some (.int .i64 1)) none none) (.slice x76.a x76.len x76.cap) <|
 c1 (l_5, x75, x76, ()) (()))))))
 (mdraw <|
 mif ((a_6.len : Int) == 0)
 (ixa P zt8 (Sl.v b_7) 0 fun x77 =>
 ld P zth x77 zk6 fun (x78 : zT6) =>
 mcall P n_zf15 [(KV zk6 x78), (.int .i64 1)] zk2 fun (x79 : zT2) =>
 bsl P zt6 zk2 [x79] fun x80 =>
 app P #[zt6, zt6] zt6 (Sl.v l_5) (Sl.v x80) fun x81 =>
 slc P zt8 b_7 (some 1) none fun x82 =>
 c1 (x81, a_6, x82, ()) (()))
 (ixa P zt8 (Sl.v b_7) 0 fun x83 =>
 ld P zth x83 zk6 fun (x84 : zT6) =>
 ixa P zt8 (Sl.v a_6) 0 fun x85 =>
 ld P zth x85 zk6 fun (x86 : zT6) =>
 mcall P n_zf14 [(KV zk6 x84), (KV zk6 x86)] .b fun (x87 : Bool) =>
 mif x87
 (ixa P zt8 (Sl.v b_7) 0 fun x88 =>
 ld P zth x88 zk6 fun (x89 : zT6) =>
 mcall P n_zf15 [(KV zk6 x89), (.int .i64 1)] zk2 fun (x90 : zT2) =>
 bsl P zt6 zk2 [x90] fun x91 =>
 app P #[zt6, zt6] zt6 (Sl.v l_5) (Sl.v x91) fun x92 =>
 slc P zt8 b_7 (some 1) none fun x93 =>
 c1 (x92, a_6, x93, ()) (()))
 (mdraw <|
 ixa P zt8 (Sl.v a_6) 0 fun x94 =>
 ld P zth x94 zk6 fun (x95 : zT6) =>
 ixa P zt8 (Sl.v b_7) 0 fun x96 =>
 ld P zth x96 zk6 fun (x97 : zT6) =>
 meq P .neq zth (KV zk6 x95) (KV zk6 x97) fun x98 =>
 mif x98
 (ixa P zt8 (Sl.v b_7) 0 fun x99 =>
 ld P zth x99 zk6 fun (x100 : zT6) =>
 mcall P n_zf15 [(KV zk6 x100), (.int .i64 1)] zk2 fun (x101 : zT2) =>
 bsl P zt6 zk2 [x101] fun x102 =>
 app P #[zt6, zt6] zt6 (Sl.v l_5) (Sl.v x102) fun x103 =>
 mdraw <|
 slc P zt8 a_6 (some 1) none fun x104 =>
 slc P zt8 b_7 (some 1) none fun x105 =>
 mst P (Instr.sliceAt zt8 (.slice b_7.a b_7.len b_7.cap) (some (.int .i64 1)) none none) (.slice x105.a x105.len x105.cap) <|
 c1 (x103, x104, x105, ()) (()))
 (mdraw <|
 slc P zt8 a_6 (some 1) none fun x106 =>
 slc P zt8 b_7 (some 1) none fun x107 =>
 mst P (Instr.sliceAt zt8 (.slice b_7.a b_7.len b_7.cap) (some (.int .i64 1)) none none) (.slice x107.a x107.len x107.cap) <|
 c1 (l_5, x106, x107, ()) (()))))))))
 (mdraw <|
 mif ((b_7.len : Int) == 0)
 (ixa P zt8 (Sl.v a_6) 0 fun x108 =>
 ld P zth x108 zk6 fun (x109 : zT6) =>
 mcall P n_zf15 [(KV zk6 x109), (.int .i64 2)] zk2 fun (x110 : zT2) =>
 bsl P zt6 zk2 [x110] fun x111 =>
 app P #[zt6, zt6] zt6 (Sl.v l_5) (Sl.v x111) fun x112 =>
 slc P zt8 a_6 (some 1) none fun x113 =>
 c1 (x112, x113, b_7, ()) (()))
 (mif (decide ((a_6.len : Int) > 0))
 (ixa P zt8 (Sl.v a_6) 0 fun x114 =>
 ld P zth x114 zk6 fun (x115 : zT6) =>
 ixa P zt8 (Sl.v b_7) 0 fun x116 =>
 ld P zth x116 zk6 fun (x117 : zT6) =>
 mcall P n_zf14 [(KV zk6 x115), (KV zk6 x117)] .b fun (x118 : Bool) =>
 mif x118
 (ixa P zt8 (Sl.v a_6) 0 fun x119 =>
 ld P zth x119 zk6 fun (x120 : zT6) =>
 mcall P n_zf15 [(KV zk6 x120), (.int .i64 2)] zk2 fun (x121 : zT2) =>
 bsl P zt6 zk2 [x121] fun x122 =>
 app P #[zt6, zt6] zt6 (Sl.v l_5) (Sl.v x122) fun x123 =>
 slc P zt8 a_6 (some 1) none fun x124 =>
 c1 (x123, x124, b_7, ()) (()))
 (mdraw <|
 mif ((a_6.len : Int) == 0)
 (ixa P zt8 (Sl.v b_7) 0 fun x125 =>
 ld P zth x125 zk6 fun (x126 : zT6) =>
 mcall P n_zf15 [(KV zk6 x126), (.int .i64 1)] zk2 fun (x127 : zT2) =>
 bsl P zt6 zk2 [x127] fun x128 =>
 app P #[zt6, zt6] zt6 (Sl.v l_5) (Sl.v x128) fun x129 =>
 slc P zt8 b_7 (some 1) none fun x130 =>
 c1 (x129, a_6, x130, ()) (()))
 (ixa P zt8 (Sl.v b_7) 0 fun x131 =>
 ld P zth x131 zk6 fun (x132 : zT6) =>
 ixa P zt8 (Sl.v a_6) 0 fun x133 =>
 ld P zth x133 zk6 fun (x134 : zT6) =>
 mcall P n_zf14 [(KV zk6 x132), (KV zk6 x134)] .b fun (x135 : Bool) =>
 mif x135
 (ixa P zt8 (Sl.v b_7) 0 fun x136 =>
 ld P zth x136 zk6 fun (x137 : zT6) =>
 mcall P n_zf15 [(KV zk6 x137), (.int .i64 1)] zk2 fun (x138 : zT2) =>
 bsl P zt6 zk2 [x138] fun x139 =>
 app P #[zt6, zt6] zt6 (Sl.v l_5) (Sl.v x139) fun x140 =>
 slc P zt8 b_7 (some 1) none fun x141 =>
 c1 (x140, a_6, x141, ()) (()))
 (mdraw <|
 ixa P zt8 (Sl.v a_6) 0 fun x142 =>
 ld P zth x142 zk6 fun (x143 : zT6) =>
 ixa P zt8 (Sl.v b_7) 0 fun x144 =>
 ld P zth x144 zk6 fun (x145 : zT6) =>
 meq P .neq zth (KV zk6 x143) (KV zk6 x145) fun x146 =>
 mif x146
 (ixa P zt8 (Sl.v b_7) 0 fun x147 =>
 ld P zth x147 zk6 fun (x148 : zT6) =>
 mcall P n_zf15 [(KV zk6 x148), (.int .i64 1)] zk2 fun (x149 : zT2) =>
 bsl P zt6 zk2 [x149] fun x150 =>
 app P #[zt6, zt6] zt6 (Sl.v l_5) (Sl.v x150) fun x151 =>
 mdraw <|
 slc P zt8 a_6 (some 1) none fun x152 =>
 slc P zt8 b_7 (some 1) none fun x153 =>
 mst P (Instr.sliceAt zt8 (.slice b_7.a b_7.len b_7.cap) (some (.int .i64 1)) none none) (.slice x153.a x153.len x153.cap) <|
 c1 (x151, x152, x153, ()) (()))
 (mdraw <|
 slc P zt8 a_6 (some 1) none fun x154 =>
 slc P zt8 b_7 (some 1) none fun x155 =>
 mst P (Instr.sliceAt zt8 (.slice b_7.a b_7.len b_7.cap) (some (.int .i64 1)) none none) (.slice x155.a x155.len x155.cap) <|
 c1 (l_5, x154, x155, ()) (()))))))
 (mdraw <|
 mif ((a_6.len : Int) == 0)
 (ixa P zt8 (Sl.v b_7) 0 fun x156 =>
 ld P zth x156 zk6 fun (x157 : zT6) =>
 mcall P n_zf15 [(KV zk6 x157), (.int .i64 1)] zk2 fun (x158 : zT2) =>
 bsl P zt6 zk2 [x158] fun x159 =>
 app P #[zt6, zt6] zt6 (Sl.v l_5) (Sl.v x159) fun x160 =>
 slc P zt8 b_7 (some 1) none fun x161 =>
 c1 (x160, a_6, x161, ()) (()))
 (ixa P zt8 (Sl.v b_7) 0 fun x162 =>
 ld P zth x162 zk6 fun (x163 : zT6) =>
 ixa P zt8 (Sl.v a_6) 0 fun x164 =>
 ld P zth x164 zk6 fun (x165 : zT6) =>
 mcall P n_zf14 [(KV zk6 x163), (KV zk6 x165)] .b fun (x166 : Bool) =>
 mif x166
 (ixa P zt8 (Sl.v b_7) 0 fun x167 =>
 ld P zth x167 zk6 fun (x168 : zT6) =>
 mcall P n_zf15 [(KV zk6 x168), (.int .i64 1)] zk2 fun (x169 : zT2) =>
 bsl P zt6 zk2 [x169] fun x170 =>
 app P #[zt6, zt6] zt6 (Sl.v l_5) (Sl.v x170) fun x171 =>
 slc P zt8 b_7 (some 1) none fun x172 =>
 c1 (x171, a_6, x172, ()) (()))
 (mdraw <|
 ixa P zt8 (Sl.v a_6) 0 fun x173 =>
 ld P zth x173 zk6 fun (x174 : zT6) =>
 ixa P zt8 (Sl.v b_7) 0 fun x175 =>
 ld P zth x175 zk6 fun (x176 : zT6) =>
 meq P .neq zth (KV zk6 x174) (KV zk6 x176) fun x177 =>
 mif x177
 (ixa P zt8 (Sl.v b_7) 0 fun x178 =>
 ld P zth x178 zk6 fun (x179 : zT6) =>
 mcall P n_zf15 [(KV zk6 x179), (.int .i64 1)] zk2 fun (x180 : zT2) =>
 bsl P zt6 zk2 [x180] fun x181 =>
 app P #[zt6, zt6] zt6 (Sl.v l_5) (Sl.v x181) fun x182 =>
 mdraw <|
 slc P zt8 a_6 (some 1) none fun x183 =>
 slc P zt8 b_7 (some 1) none fun x184 =>
 mst P (Instr.sliceAt zt8 (.slice b_7.a b_7.len b_7.cap) (some (.int .i64 1)) none none) (.slice x184.a x184.len x184.cap) <|
 c1 (x182, x183, x184, ()) (()))
 (mdraw <|
 slc P zt8 a_6 (some 1) none fun x185 =>
 slc P zt8 b_7 (some 1) none fun x186 =>
 mst P (Instr.sliceAt zt8 (.slice b_7.a b_7.len b_7.cap) (some (.int .i64 1)) none none) (.slice x186.a x186.len x186.cap) <|
 c1 (l_5, x185, x186, ()) (())))))))
def zf7_4 (R : Sl → World → Prop) (l_5 : Sl) (a_6 : Sl) (b_7 : Sl) : World → Prop :=
 W.Loop (()) (fun (c1 : (Sl × Sl × Sl × Unit) → Unit → World → Prop) (s : Sl × Sl × Sl × Unit) => zf7_6 c1 R s.1 s.2.1 s.2.2.1) (l_5, a_6, b_7, ())
def zf7_3 (R : Sl → World → Prop) (old_2 : Addr) (now_3 : Addr) (l_5 : Sl) : World → Prop :=
 mdraw <|
 ld P zt8 (ad old_2 4) .sl fun (x27 : Sl) =>
 ld P zt8 (ad now_3 4) .sl fun (x28 : Sl) =>
 zf7_4 R l_5 x27 x28
def zf7_2 (R : Sl → World → Prop) (old_2 : Addr) (now_3 : Addr) : World → Prop :=
 ld P zt1 old_2 I fun (x3 : Int) =>
 ld P zt1 now_3 I fun (x4 : Int) =>
 mif (x3 != x4)
 (ld P zt9 now_3 zk1 fun (x5 : zT1) =>
 mcall P n_zf13 [(KV zk1 x5)] zk2 fun (x6 : zT2) =>
 bsl P zt6 zk2 [x6] fun x7 =>
 app P #[zt6, zt6] zt6 (Sl.v ⟨none, 0, 0⟩) (Sl.v x7) fun x8 =>
 zf7_3 R old_2 now_3 x8)
 (ld P zt1 (ad old_2 1) I fun (x9 : Int) =>
 ld P zt1 (ad now_3 1) I fun (x10 : Int) =>
 mif (x9 != x10)
 (ld P zt9 now_3 zk1 fun (x11 : zT1) =>
 mcall P n_zf13 [(KV zk1 x11)] zk2 fun (x12 : zT2) =>
 bsl P zt6 zk2 [x12] fun x13 =>
 app P #[zt6, zt6] zt6 (Sl.v ⟨none, 0, 0⟩) (Sl.v x13) fun x14 =>
 zf7_3 R old_2 now_3 x14)
 (ld P zt1 (ad old_2 2) I fun (x15 : Int) =>
 ld P zt1 (ad now_3 2) I fun (x16 : Int) =>
 mif (x15 != x16)
 (ld P zt9 now_3 zk1 fun (x17 : zT1) =>
 mcall P n_zf13 [(KV zk1 x17)] zk2 fun (x18 : zT2) =>
 bsl P zt6 zk2 [x18] fun x19 =>
 app P #[zt6, zt6] zt6 (Sl.v ⟨none, 0, 0⟩) (Sl.v x19) fun x20 =>
 zf7_3 R old_2 now_3 x20)
 (ld P zt1 (ad old_2 3) I fun (x21 : Int) =>
 ld P zt1 (ad now_3 3) I fun (x22 : Int) =>
 mif (x21 != x22)
 (ld P zt9 now_3 zk1 fun (x23 : zT1) =>
 mcall P n_zf13 [(KV zk1 x23)] zk2 fun (x24 : zT2) =>
 bsl P zt6 zk2 [x24] fun x25 =>
 app P #[zt6, zt6] zt6 (Sl.v ⟨none, 0, 0⟩) (Sl.v x25) fun x26 =>
 zf7_3 R old_2 now_3 x26)
 (zf7_3 R old_2 now_3 ⟨none, 0, 0⟩))))
def zf7_1 (R : Sl → World → Prop) (old_2 : Addr) (now_3 : Addr) : World → Prop :=
 zf7_2 R old_2 now_3
def zf7_0 (R : Sl → World → Prop) (old_0 : zT1) (now_1 : zT1) : World → Prop :=
 bx P zt9 zk1 old_0 fun a1 =>
 bx P zt9 zk1 now_1 fun a2 =>
 zf7_1 R a1 a2
theorem zf7_5_ok (R : Sl → World → Prop) (x : Sl × Unit) (w : World) (h : zf7_5 R x.1 w) : WPC P 120 [] (Code.at zf7_B [.snd, .blk, .snd, .snd, .snd, .snd, .snd]) (noGotoQ (zf7_q1 R)) (mkE 120 zf7_l7 x) w :=
  pc_end h
theorem zf7_6_ok (c1 : (Sl × Sl × Sl × Unit) → Unit → World → Prop) (R : Sl → World → Prop) (x : Sl × Sl × Sl × Unit) (y : Unit) (w : World) (h : zf7_6 c1 R x.1 x.2.1 x.2.2.1 w) : WPC P 120 [] (Code.at zf7_B [.snd, .blk, .snd, .snd, .snd, .snd, .fst, .blk, .blk]) (zf7_q2 c1 R) (mkE2 120 zf7_l5 zf7_l6 x y) w :=
  pc_end h
theorem zf7_4_ok (R : Sl → World → Prop) (x : Sl × Sl × Sl × Unit) (y : Unit) (w : World) (h : zf7_4 R x.1 x.2.1 x.2.2.1 w) : WPC P 120 [] (Code.at zf7_B [.snd, .blk, .snd, .snd, .snd, .snd]) (noGotoQ (zf7_q1 R)) (mkE2 120 zf7_l5 zf7_l6 x y) w :=
  pc_loopR (l := zf7_l5) (l' := zf7_l6) (lr := zf7_l7) (FR := fun (x : Sl × Unit) => zf7_5 R x.1) (id := 0) (b := (Code.at zf7_B [.snd, .blk, .snd, .snd, .snd, .snd, .fst, .blk, .blk])) (rest := (Code.at zf7_B [.snd, .blk, .snd, .snd, .snd, .snd, .snd])) (fun c1 s => zf7_6_ok c1 R s y) (zf7_5_ok R) h
theorem zf7_3_ok (R : Sl → World → Prop) (x : Addr × Addr × Sl × Unit) (w : World) (h : zf7_3 R x.1 x.2.1 x.2.2.1 w) : WPC P 120 [] (Code.at zf7_B [.snd, .blk, .snd, .snd]) (noGotoQ (zf7_q1 R)) (mkE 120 zf7_l4 x) w :=
  pc_cut2 (l := zf7_l5) (l' := zf7_l6) 2 (zf7_4_ok R) h
theorem zf7_2_ok (R : Sl → World → Prop) (x : Addr × Addr × Unit) (w : World) (h : zf7_2 R x.1 x.2.1 w) : WPC P 120 [] (Code.at zf7_B [.snd, .blk]) (noGotoQ (zf7_q1 R)) (mkE 120 zf7_l3 x) w :=
  pc_cut (l := zf7_l4) 2 (zf7_3_ok R) h
theorem zf7_1_ok (R : Sl → World → Prop) (x : Addr × Addr × Unit) (w : World) (h : zf7_1 R x.1 x.2.1 w) : WPC P 120 [] (Code.at zf7_B [.snd]) (zf7_q1 R) (mkE 120 zf7_l2 x) w :=
  pc_scope0 (c := (Code.at zf7_B [.snd, .blk])) (pc_cut (l := zf7_l3) (c := (Code.at zf7_B [.snd, .blk])) 0 (zf7_2_ok R) h)
theorem zf7_0_ok (R : Sl → World → Prop) (x : zT1 × zT1 × Unit) (w : World) (h : zf7_0 R x.1 x.2.1 w) : WPC P 120 [] (Code.at zf7_B []) (zf7_q1 R) (mkE 120 zf7_l1 x) w :=
  pc_cut (l := zf7_l2) 1 (zf7_1_ok R) h
theorem zf7_call (R : Sl → World → Prop) (old_0 : zT1) (now_1 : zT1) (w : World) (h : zf7_0 R old_0 now_1 w) : mcall P n_zf7 [(KV zk1 old_0), (KV zk1 now_1)] .sl R w :=
  pc_top (l := zf7_l1) (c := zf7_B) Tryz.func10 (zf7_0_ok R) h
noncomputable abbrev zf8_B : Code := (Tryz.f11.body).getD .skip
abbrev zf8_q1 (R : (Option Addr × Int × Unit) → World → Prop) := (topQ P [.tmp 2, .tmp 3] (.tup [.p, I]) R)
abbrev zf8_l1 : Slots := [(0, I)]
def zf8_0 (R : (Option Addr × Int × Unit) → World → Prop) (n_0 : Int) : World → Prop :=
 mif (decide (n_0 < 1))
 (R (none, 1, ()))
 (mif (decide (n_0 > 16384))
 (R (none, 1, ()))
 (mkm P ztk fun x1 =>
 bx P ztl zk7 ((some x1), n_0, (-1), false, ()) fun a2 =>
 R ((some a2), 0, ())))
theorem zf8_0_ok (R : (Option Addr × Int × Unit) → World → Prop) (x : Int × Unit) (w : World) (h : zf8_0 R x.1 w) : WPC P 14 [] (Code.at zf8_B []) (zf8_q1 R) (mkE 14 zf8_l1 x) w :=
  pc_end h
theorem zf8_call (R : (Option Addr × Int × Unit) → World → Prop) (n_0 : Int) (w : World) (h : zf8_0 R n_0 w) : mcall P n_zf8 [(.int .i64 n_0)] (.tup [.p, I]) R w :=
  pc_top (l := zf8_l1) (c := zf8_B) Tryz.func11 (zf8_0_ok R) h
noncomputable abbrev zf9_B : Code := (Tryz.f12.body).getD .skip
abbrev zf9_q1 (R : Int → World → Prop) := (topQ P [.tmp 6] I R)
abbrev zf9_l1 : Slots := [(0, .p), (1, .s), (2, .sl)]
abbrev zf9_l2 : Slots := [(0, .p), (4, .ad), (7, .s)]
def zf9_1 (R : Int → World → Prop) (d_0 : Option Addr) (name_4 : Addr) (s_7 : Bs) : World → Prop :=
 ld P zt4 name_4 .s fun (x11 : Bs) =>
 mcat x11 [46, 110, 101, 119] fun s12 =>
 mcall P n_zf1c [(.pointer d_0), (.string ⟨s12.toArray⟩), (.string ⟨s_7.toArray⟩)] I fun (x13 : Int) =>
 mif (x13 != 0)
 (R x13)
 (ld P zt4 name_4 .s fun (x14 : Bs) =>
 mcat x14 [46, 110, 101, 119] fun s15 =>
 mcall P n_zf1d [(.pointer d_0), (.string ⟨s15.toArray⟩)] I fun (x16 : Int) =>
 mif (x16 != 0)
 (R x16)
 (ld P zt4 name_4 .s fun (x17 : Bs) =>
 mcat x17 [46, 110, 101, 119] fun s18 =>
 ld P zt4 name_4 .s fun (x19 : Bs) =>
 mcall P n_zf1e [(.pointer d_0), (.string ⟨s18.toArray⟩), (.string ⟨x19.toArray⟩)] I fun (x20 : Int) =>
 R x20))
def zf9_0 (R : Int → World → Prop) (d_0 : Option Addr) (name_1 : Bs) (l_2 : Sl) : World → Prop :=
 bx P zt4 .s name_1 fun a1 =>
 mcall P n_zf16 [(Sl.v l_2)] (.tup [.s, I]) fun (x2 : Bs × Int × Unit) =>
 mif (x2.2.1 != 0)
 (R 1)
 (meq P .eql zte (.pointer d_0) (.pointer none) fun x3 =>
 mif x3
 (R 1)
 (ld P zt4 a1 .s fun (x4 : Bs) =>
 mcall P n_zf17 [(.string ⟨x4.toArray⟩)] .b fun (x5 : Bool) =>
 mif (!x5)
 (R 1)
 (mcall P n_zf19 [(.pointer d_0)] .sl fun (x6 : Sl) =>
 mcall P n_zf18 [(Sl.v x6), (.func (.func n_zf1a) #[] #[.pointer (some a1)])] .b fun (x7 : Bool) =>
 mif x7
 (ld P zt4 a1 .s fun (x8 : Bs) =>
 mcat x8 [46, 110, 101, 119] fun s9 =>
 mcall P n_zf1b [(.pointer d_0), (.string ⟨s9.toArray⟩)] I fun (x10 : Int) =>
 mif (x10 != 0)
 (R x10)
 (zf9_1 R d_0 a1 x2.1))
 (zf9_1 R d_0 a1 x2.1))))
theorem zf9_1_ok (R : Int → World → Prop) (x : Option Addr × Addr × Bs × Unit) (w : World) (h : zf9_1 R x.1 x.2.1 x.2.2.1 w) : WPC P 59 [] (Code.at zf9_B [.snd, .snd, .snd, .snd]) (zf9_q1 R) (mkE 59 zf9_l2 x) w :=
  pc_end h
theorem zf9_0_ok (R : Int → World → Prop) (x : Option Addr × Bs × Sl × Unit) (w : World) (h : zf9_0 R x.1 x.2.1 x.2.2.1 w) : WPC P 59 [] (Code.at zf9_B []) (zf9_q1 R) (mkE 59 zf9_l1 x) w :=
  pc_cut (l := zf9_l2) 4 (zf9_1_ok R) h
theorem zf9_call (R : Int → World → Prop) (d_0 : Option Addr) (name_1 : Bs) (l_2 : Sl) (w : World) (h : zf9_0 R d_0 name_1 l_2 w) : mcall P n_zf9 [(.pointer d_0), (.string ⟨name_1.toArray⟩), (Sl.v l_2)] I R w :=
  pc_top (l := zf9_l1) (c := zf9_B) Tryz.func12 (zf9_0_ok R) h
noncomputable abbrev zfa_B : Code := (Tryz.f13.body).getD .skip
abbrev zfa_q1 (R : Unit → World → Prop) := (topQ P [] (.tup []) R)
abbrev zfa_l1 : Slots := [(0, .p), (1, I)]
def zfa_0 (R : Unit → World → Prop) (d_0 : Option Addr) (n_1 : Int) : World → Prop :=
 meq P .neq zte (.pointer d_0) (.pointer none) fun x1 =>
 mif x1
 (mnil d_0 fun a2 =>
 sto P zt1 (ad a2 2) I (mx n_1 (-1)) <|
 R (()))
 (R (()))
theorem zfa_0_ok (R : Unit → World → Prop) (x : Option Addr × Int × Unit) (w : World) (h : zfa_0 R x.1 x.2.1 w) : WPC P 11 [] (Code.at zfa_B []) (zfa_q1 R) (mkE 11 zfa_l1 x) w :=
  pc_end h
theorem zfa_call (R : Unit → World → Prop) (d_0 : Option Addr) (n_1 : Int) (w : World) (h : zfa_0 R d_0 n_1 w) : mcall P n_zfa [(.pointer d_0), (.int .i64 n_1)] (.tup []) R w :=
  pc_top (l := zfa_l1) (c := zfa_B) Tryz.func13 (zfa_0_ok R) h
noncomputable abbrev zfb_B : Code := (Tryz.f14.body).getD .skip
abbrev zfb_q1 (R : Sl → World → Prop) := (topQ P [.tmp 4] .sl R)
abbrev zfb_l1 : Slots := [(0, .sl), (1, I)]
abbrev zfb_l2 : Slots := [(0, .sl), (1, I), (5, .md)]
abbrev zfb_l3 : Slots := [(0, .sl), (1, I), (5, .md)]
abbrev zfb_l4 : Slots := [(0, .sl), (1, I), (5, .md), (10, .sl)]
abbrev zfb_l5 : Slots := [(10, .sl)]
def zfb_4 (R : Sl → World → Prop) (out_10 : Sl) : World → Prop :=
 R out_10
abbrev zfb_q2 (R : Sl → World → Prop) := (thenQ (fun env => getE env zfb_l5 fun (x : Sl × Unit) => zfb_4 R x.1) (zfb_q1 R))
abbrev zfb_l6 : Slots := [(0, .sl), (1, I), (5, .md), (10, .sl)]
abbrev zfb_l7 : Slots := [(10, .sl), (42, I)]
abbrev zfb_l8 : Slots := [(1, I), (5, .md), (40, .sl), (41, I)]
abbrev zfb_q3 (c1 : (Sl × Int × Unit) → (Int × Nat × Sl × Int × Unit) → World → Prop) (R : Sl → World → Prop) := (thenQ (fun env => getE env zfb_l7 fun (s : Sl × Int × Unit) => getE env zfb_l8 (c1 s)) (blockQ 2 ((zfb_q2 R) .normal) (zfb_q2 R)))
abbrev zfb_l9 : Slots := [(1, I), (5, .md), (10, .sl), (40, .sl), (41, I), (42, I)]
def zfb_8 (c1 : (Sl × Int × Unit) → (Int × Nat × Sl × Int × Unit) → World → Prop) (R : Sl → World → Prop) (upto_1 : Int) (last_5 : Nat) (out_10 : Sl) (v40 : Sl) (v41 : Int) (v42 : Int) : World → Prop :=
 c1 (out_10, w64 (v42 + 1), ()) (upto_1, last_5, v40, v41, ())
def zfb_7 (c1 : (Sl × Int × Unit) → (Int × Nat × Sl × Int × Unit) → World → Prop) (R : Sl → World → Prop) (out_10 : Sl) (v42 : Int) (upto_1 : Int) (last_5 : Nat) (v40 : Sl) (v41 : Int) : World → Prop :=
 mif (decide (v42 < v41))
 (ixa P zta (Sl.v v40) v42 fun x2 =>
 ld P ztd x2 zk3 fun (x3 : zT3) =>
 alo P ztd fun a4 =>
 sto P ztd a4 zk3 x3 <|
 ld P ztc (ad a4 1) zk2 fun (x5 : zT2) =>
 mcall P n_zf1f [(KV zk2 x5)] (.tup [zk2, .b]) fun (x6 : zT2 × Bool × Unit) =>
 alo P ztc fun a7 =>
 sto P ztc a7 zk2 x6.1 <|
 ld P zt1 a4 I fun (x8 : Int) =>
 mif (decide (x8 < upto_1))
 (mif x6.2.1
 (ld P ztc a7 zk2 fun (x9 : zT2) =>
 lku P zto (some last_5) zk2 x9 I fun (x10 : Int) =>
 mif (x10 != v42)
 (zfb_8 c1 R upto_1 last_5 out_10 v40 v41 v42)
 (ld P ztc (ad a4 1) zk2 fun (x11 : zT2) =>
 mcall P n_zf1g [(KV zk2 x11)] .b fun (x12 : Bool) =>
 mif x12
 (zfb_8 c1 R upto_1 last_5 out_10 v40 v41 v42)
 (ld P ztd a4 zk3 fun (x13 : zT3) =>
 bsl P zta zk3 [x13] fun x14 =>
 app P #[zta, zta] zta (Sl.v out_10) (Sl.v x14) fun x15 =>
 zfb_8 c1 R upto_1 last_5 x15 v40 v41 v42)))
 (ld P ztd a4 zk3 fun (x16 : zT3) =>
 bsl P zta zk3 [x16] fun x17 =>
 app P #[zta, zta] zta (Sl.v out_10) (Sl.v x17) fun x18 =>
 zfb_8 c1 R upto_1 last_5 x18 v40 v41 v42))
 (ld P ztd a4 zk3 fun (x19 : zT3) =>
 bsl P zta zk3 [x19] fun x20 =>
 app P #[zta, zta] zta (Sl.v out_10) (Sl.v x20) fun x21 =>
 zfb_8 c1 R upto_1 last_5 x21 v40 v41 v42))
 (zfb_4 R out_10)
def zfb_6 (R : Sl → World → Prop) (out_10 : Sl) (v42 : Int) (upto_1 : Int) (last_5 : Nat) (v40 : Sl) (v41 : Int) : World → Prop :=
 W.Loop (upto_1, last_5, v40, v41, ()) (fun (c1 : (Sl × Int × Unit) → (Int × Nat × Sl × Int × Unit) → World → Prop) (s : Sl × Int × Unit) => zfb_7 c1 R s.1 s.2.1 upto_1 last_5 v40 v41) (out_10, v42, ())
def zfb_5 (R : Sl → World → Prop) (l_0 : Sl) (upto_1 : Int) (last_5 : Nat) (out_10 : Sl) : World → Prop :=
 zfb_6 R out_10 0 upto_1 last_5 l_0 (l_0.len : Int)
def zfb_3 (R : Sl → World → Prop) (l_0 : Sl) (upto_1 : Int) (last_5 : Nat) (out_10 : Sl) : World → Prop :=
 zfb_5 R l_0 upto_1 last_5 out_10
def zfb_2 (R : Sl → World → Prop) (l_0 : Sl) (upto_1 : Int) (last_5 : Nat) : World → Prop :=
 zfb_3 R l_0 upto_1 last_5 ⟨none, 0, 0⟩
abbrev zfb_q4 (R : Sl → World → Prop) := (thenQ (fun env => getE env zfb_l3 fun (x : Sl × Int × Nat × Unit) => zfb_2 R x.1 x.2.1 x.2.2.1) (zfb_q1 R))
abbrev zfb_l10 : Slots := [(0, .sl), (1, I), (5, .md)]
abbrev zfb_l11 : Slots := [(18, I)]
abbrev zfb_l12 : Slots := [(0, .sl), (1, I), (5, .md), (16, .sl), (17, I)]
abbrev zfb_q5 (c1 : (Int × Unit) → (Sl × Int × Nat × Sl × Int × Unit) → World → Prop) (R : Sl → World → Prop) := (thenQ (fun env => getE env zfb_l11 fun (s : Int × Unit) => getE env zfb_l12 (c1 s)) (blockQ 0 ((zfb_q4 R) .normal) (zfb_q4 R)))
abbrev zfb_l13 : Slots := [(0, .sl), (1, I), (5, .md), (16, .sl), (17, I), (18, I)]
def zfb_12 (c1 : (Int × Unit) → (Sl × Int × Nat × Sl × Int × Unit) → World → Prop) (R : Sl → World → Prop) (l_0 : Sl) (upto_1 : Int) (last_5 : Nat) (v16 : Sl) (v17 : Int) (v18 : Int) : World → Prop :=
 c1 (w64 (v18 + 1), ()) (l_0, upto_1, last_5, v16, v17, ())
def zfb_11 (c1 : (Int × Unit) → (Sl × Int × Nat × Sl × Int × Unit) → World → Prop) (R : Sl → World → Prop) (v18 : Int) (l_0 : Sl) (upto_1 : Int) (last_5 : Nat) (v16 : Sl) (v17 : Int) : World → Prop :=
 mif (decide (v18 < v17))
 (ixa P zta (Sl.v v16) v18 fun x22 =>
 ld P ztd x22 zk3 fun (x23 : zT3) =>
 alo P ztd fun a24 =>
 sto P ztd a24 zk3 x23 <|
 ld P ztc (ad a24 1) zk2 fun (x25 : zT2) =>
 mcall P n_zf1f [(KV zk2 x25)] (.tup [zk2, .b]) fun (x26 : zT2 × Bool × Unit) =>
 alo P ztc fun a27 =>
 sto P ztc a27 zk2 x26.1 <|
 mif x26.2.1
 (ld P zt1 a24 I fun (x28 : Int) =>
 mif (decide (x28 < upto_1))
 (ld P ztc a27 zk2 fun (x29 : zT2) =>
 mup P zto (some last_5) zk2 x29 I v18 <|
 zfb_12 c1 R l_0 upto_1 last_5 v16 v17 v18)
 (zfb_12 c1 R l_0 upto_1 last_5 v16 v17 v18))
 (zfb_12 c1 R l_0 upto_1 last_5 v16 v17 v18))
 (zfb_2 R l_0 upto_1 last_5)
def zfb_10 (R : Sl → World → Prop) (v18 : Int) (l_0 : Sl) (upto_1 : Int) (last_5 : Nat) (v16 : Sl) (v17 : Int) : World → Prop :=
 W.Loop (l_0, upto_1, last_5, v16, v17, ()) (fun (c1 : (Int × Unit) → (Sl × Int × Nat × Sl × Int × Unit) → World → Prop) (s : Int × Unit) => zfb_11 c1 R s.1 l_0 upto_1 last_5 v16 v17) (v18, ())
def zfb_9 (R : Sl → World → Prop) (l_0 : Sl) (upto_1 : Int) (last_5 : Nat) : World → Prop :=
 zfb_10 R 0 l_0 upto_1 last_5 l_0 (l_0.len : Int)
def zfb_1 (R : Sl → World → Prop) (l_0 : Sl) (upto_1 : Int) (last_5 : Nat) : World → Prop :=
 zfb_9 R l_0 upto_1 last_5
def zfb_0 (R : Sl → World → Prop) (l_0 : Sl) (upto_1 : Int) : World → Prop :=
 mkm P zto fun x1 =>
 zfb_1 R l_0 upto_1 x1
theorem zfb_4_ok (R : Sl → World → Prop) (x : Sl × Unit) (w : World) (h : zfb_4 R x.1 w) : WPC P 78 [] (Code.at zfb_B [.snd, .snd, .snd, .snd, .snd]) (zfb_q1 R) (mkE 78 zfb_l5 x) w :=
  pc_end h
theorem zfb_8_ok (c1 : (Sl × Int × Unit) → (Int × Nat × Sl × Int × Unit) → World → Prop) (R : Sl → World → Prop) (x : Int × Nat × Sl × Sl × Int × Int × Unit) (w : World) (h : zfb_8 c1 R x.1 x.2.1 x.2.2.1 x.2.2.2.1 x.2.2.2.2.1 x.2.2.2.2.2.1 w) : WPC P 78 [] (Code.at zfb_B [.snd, .snd, .snd, .snd, .fst, .snd, .blk, .blk, .snd, .snd, .snd]) (zfb_q3 c1 R) (mkE 78 zfb_l9 x) w :=
  pc_end h
theorem zfb_7_ok (c1 : (Sl × Int × Unit) → (Int × Nat × Sl × Int × Unit) → World → Prop) (R : Sl → World → Prop) (x : Sl × Int × Unit) (y : Int × Nat × Sl × Int × Unit) (w : World) (h : zfb_7 c1 R x.1 x.2.1 y.1 y.2.1 y.2.2.1 y.2.2.2.1 w) : WPC P 78 [] (Code.at zfb_B [.snd, .snd, .snd, .snd, .fst, .snd, .blk, .blk]) (zfb_q3 c1 R) (mkE2 78 zfb_l7 zfb_l8 x y) w :=
  pc_cut (l := zfb_l9) 3 (zfb_8_ok c1 R) h
theorem zfb_6_ok (R : Sl → World → Prop) (x : Sl × Int × Unit) (y : Int × Nat × Sl × Int × Unit) (w : World) (h : zfb_6 R x.1 x.2.1 y.1 y.2.1 y.2.2.1 y.2.2.2.1 w) : WPC P 78 [] (Code.at zfb_B [.snd, .snd, .snd, .snd, .fst, .snd]) (zfb_q2 R) (mkE2 78 zfb_l7 zfb_l8 x y) w :=
  pc_loopE (l := zfb_l7) (l' := zfb_l8) (id := 2) (b := (Code.at zfb_B [.snd, .snd, .snd, .snd, .fst, .snd, .blk, .blk])) (fun c1 s => zfb_7_ok c1 R s y) h
theorem zfb_5_ok (R : Sl → World → Prop) (x : Sl × Int × Nat × Sl × Unit) (w : World) (h : zfb_5 R x.1 x.2.1 x.2.2.1 x.2.2.2.1 w) : WPC P 78 [] (Code.at zfb_B [.snd, .snd, .snd, .snd, .fst]) (zfb_q2 R) (mkE 78 zfb_l6 x) w :=
  pc_cut2 (l := zfb_l7) (l' := zfb_l8) 1 (zfb_6_ok R) h
theorem zfb_3_ok (R : Sl → World → Prop) (x : Sl × Int × Nat × Sl × Unit) (w : World) (h : zfb_3 R x.1 x.2.1 x.2.2.1 x.2.2.2.1 w) : WPC P 78 [] (Code.at zfb_B [.snd, .snd, .snd, .snd]) (zfb_q1 R) (mkE 78 zfb_l4 x) w :=
  pc_seq (l := zfb_l5) (a := (Code.at zfb_B [.snd, .snd, .snd, .snd, .fst])) (b := (Code.at zfb_B [.snd, .snd, .snd, .snd, .snd])) (pc_cut (l := zfb_l6) (c := (Code.at zfb_B [.snd, .snd, .snd, .snd, .fst])) 0 (zfb_5_ok R) h) (zfb_4_ok R)
theorem zfb_2_ok (R : Sl → World → Prop) (x : Sl × Int × Nat × Unit) (w : World) (h : zfb_2 R x.1 x.2.1 x.2.2.1 w) : WPC P 78 [] (Code.at zfb_B [.snd, .snd, .snd]) (zfb_q1 R) (mkE 78 zfb_l3 x) w :=
  pc_cut (l := zfb_l4) 1 (zfb_3_ok R) h
theorem zfb_12_ok (c1 : (Int × Unit) → (Sl × Int × Nat × Sl × Int × Unit) → World → Prop) (R : Sl → World → Prop) (x : Sl × Int × Nat × Sl × Int × Int × Unit) (w : World) (h : zfb_12 c1 R x.1 x.2.1 x.2.2.1 x.2.2.2.1 x.2.2.2.2.1 x.2.2.2.2.2.1 w) : WPC P 78 [] (Code.at zfb_B [.snd, .snd, .fst, .snd, .blk, .blk, .snd, .snd, .snd]) (zfb_q5 c1 R) (mkE 78 zfb_l13 x) w :=
  pc_end h
theorem zfb_11_ok (c1 : (Int × Unit) → (Sl × Int × Nat × Sl × Int × Unit) → World → Prop) (R : Sl → World → Prop) (x : Int × Unit) (y : Sl × Int × Nat × Sl × Int × Unit) (w : World) (h : zfb_11 c1 R x.1 y.1 y.2.1 y.2.2.1 y.2.2.2.1 y.2.2.2.2.1 w) : WPC P 78 [] (Code.at zfb_B [.snd, .snd, .fst, .snd, .blk, .blk]) (zfb_q5 c1 R) (mkE2 78 zfb_l11 zfb_l12 x y) w :=
  pc_cut (l := zfb_l13) 3 (zfb_12_ok c1 R) h
theorem zfb_10_ok (R : Sl → World → Prop) (x : Int × Unit) (y : Sl × Int × Nat × Sl × Int × Unit) (w : World) (h : zfb_10 R x.1 y.1 y.2.1 y.2.2.1 y.2.2.2.1 y.2.2.2.2.1 w) : WPC P 78 [] (Code.at zfb_B [.snd, .snd, .fst, .snd]) (zfb_q4 R) (mkE2 78 zfb_l11 zfb_l12 x y) w :=
  pc_loopE (l := zfb_l11) (l' := zfb_l12) (id := 0) (b := (Code.at zfb_B [.snd, .snd, .fst, .snd, .blk, .blk])) (fun c1 s => zfb_11_ok c1 R s y) h
theorem zfb_9_ok (R : Sl → World → Prop) (x : Sl × Int × Nat × Unit) (w : World) (h : zfb_9 R x.1 x.2.1 x.2.2.1 w) : WPC P 78 [] (Code.at zfb_B [.snd, .snd, .fst]) (zfb_q4 R) (mkE 78 zfb_l10 x) w :=
  pc_cut2 (l := zfb_l11) (l' := zfb_l12) 1 (zfb_10_ok R) h
theorem zfb_1_ok (R : Sl → World → Prop) (x : Sl × Int × Nat × Unit) (w : World) (h : zfb_1 R x.1 x.2.1 x.2.2.1 w) : WPC P 78 [] (Code.at zfb_B [.snd, .snd]) (zfb_q1 R) (mkE 78 zfb_l2 x) w :=
  pc_seq (l := zfb_l3) (a := (Code.at zfb_B [.snd, .snd, .fst])) (b := (Code.at zfb_B [.snd, .snd, .snd])) (pc_cut (l := zfb_l10) (c := (Code.at zfb_B [.snd, .snd, .fst])) 0 (zfb_9_ok R) h) (zfb_2_ok R)
theorem zfb_0_ok (R : Sl → World → Prop) (x : Sl × Int × Unit) (w : World) (h : zfb_0 R x.1 x.2.1 w) : WPC P 78 [] (Code.at zfb_B []) (zfb_q1 R) (mkE 78 zfb_l1 x) w :=
  pc_cut (l := zfb_l2) 2 (zfb_1_ok R) h
theorem zfb_call (R : Sl → World → Prop) (l_0 : Sl) (upto_1 : Int) (w : World) (h : zfb_0 R l_0 upto_1 w) : mcall P n_zfb [(Sl.v l_0), (.int .i64 upto_1)] .sl R w :=
  pc_top (l := zfb_l1) (c := zfb_B) Tryz.func14 (zfb_0_ok R) h
end Go.Proofs.YtpjhflboedicpaaGreatDoor
