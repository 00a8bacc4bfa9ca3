/- Short texts of functions of the program, each with the proof that a call comes to it. No condition. -/
import Derived.Test.YtpjhflboedicpaaGreatDoorNames
set_option linter.unusedVariables false
set_option linter.unusedSimpArgs false
namespace Go.Proofs.YtpjhflboedicpaaGreatDoor
open Go Go.W
set_option maxRecDepth 100000
noncomputable abbrev zfy_B : Code := (Tryz.f37.body).getD .skip
abbrev zfy_q1 (R : Sl → World → Prop) := (topQ P [.tmp 4] .sl R)
abbrev zfy_l1 : Slots := [(0, .sl), (1, .v)]
abbrev zfy_l2 : Slots := [(0, .sl), (1, .v), (5, I)]
abbrev zfy_l3 : Slots := [(0, .sl), (5, I)]
def zfy_2 (R : Sl → World → Prop) (s_0 : Sl) (i_5 : Int) : World → Prop :=
 slc P zt8 s_0 (some i_5) none fun x2 =>
 mop P (Builtin.clear_ #[zt8] zt0 #[.slice x2.a x2.len x2.cap]) .v fun (x3 : Value) =>
 slc P zt8 s_0 none (some i_5) fun x4 =>
 R x4
abbrev zfy_q2 (R : Sl → World → Prop) := (thenQ (fun env => getE env zfy_l3 fun (x : Sl × Int × Unit) => zfy_2 R x.1 x.2.1) (zfy_q1 R))
abbrev zfy_l4 : Slots := [(0, .sl), (1, .v), (5, I)]
abbrev zfy_l5 : Slots := [(5, I), (6, I)]
abbrev zfy_l6 : Slots := [(0, .sl), (1, .v)]
abbrev zfy_q3 (c1 : (Int × Int × Unit) → (Sl × Value × Unit) → World → Prop) (R : Sl → World → Prop) := (thenQ (fun env => getE env zfy_l5 fun (s : Int × Int × Unit) => getE env zfy_l6 (c1 s)) (blockQ 0 ((zfy_q2 R) .normal) (zfy_q2 R)))
abbrev zfy_l7 : Slots := [(0, .sl), (1, .v), (5, I), (6, I)]
def zfy_6 (c1 : (Int × Int × Unit) → (Sl × Value × Unit) → World → Prop) (R : Sl → World → Prop) (s_0 : Sl) (del_1 : Value) (i_5 : Int) (j_6 : Int) : World → Prop :=
 c1 (i_5, w64 (j_6 + 1), ()) (s_0, del_1, ())
def zfy_5 (c1 : (Int × Int × Unit) → (Sl × Value × Unit) → World → Prop) (R : Sl → World → Prop) (i_5 : Int) (j_6 : Int) (s_0 : Sl) (del_1 : Value) : World → Prop :=
 mif (decide (j_6 < (s_0.len : Int)))
 (ixa P zt8 (Sl.v s_0) j_6 fun x5 =>
 ld P zth x5 zk6 fun (x6 : zT6) =>
 alo P zth fun a7 =>
 sto P zth a7 zk6 x6 <|
 ld P zth a7 zk6 fun (x8 : zT6) =>
 mdyn P del_1 [.agg #[.int .i64 x8.1, .int .i64 x8.2.1, .int .i64 x8.2.2.1.1, .int .i64 x8.2.2.1.2.1, .int .i64 x8.2.2.1.2.2.1, .int .i64 x8.2.2.1.2.2.2.1, .int .i64 x8.2.2.1.2.2.2.2.1.1, .int .i64 x8.2.2.1.2.2.2.2.1.2.1, .int .i64 x8.2.2.1.2.2.2.2.1.2.2.1, .int .i64 x8.2.2.1.2.2.2.2.1.2.2.2.1, .int .i64 x8.2.2.1.2.2.2.2.2.1, .int .i64 x8.2.2.1.2.2.2.2.2.2.1]] .b fun (x9 : Bool) =>
 mif (!x9)
 (ld P zth a7 zk6 fun (x10 : zT6) =>
 ixa P zt8 (Sl.v s_0) i_5 fun x11 =>
 sto P zth x11 zk6 x10 <|
 zfy_6 c1 R s_0 del_1 (w64 (i_5 + 1)) j_6)
 (zfy_6 c1 R s_0 del_1 i_5 j_6))
 (zfy_2 R s_0 i_5)
def zfy_4 (R : Sl → World → Prop) (i_5 : Int) (j_6 : Int) (s_0 : Sl) (del_1 : Value) : World → Prop :=
 W.Loop (s_0, del_1, ()) (fun (c1 : (Int × Int × Unit) → (Sl × Value × Unit) → World → Prop) (s : Int × Int × Unit) => zfy_5 c1 R s.1 s.2.1 s_0 del_1) (i_5, j_6, ())
def zfy_3 (R : Sl → World → Prop) (s_0 : Sl) (del_1 : Value) (i_5 : Int) : World → Prop :=
 zfy_4 R i_5 (w64 (i_5 + 1)) s_0 del_1
def zfy_1 (R : Sl → World → Prop) (s_0 : Sl) (del_1 : Value) (i_5 : Int) : World → Prop :=
 zfy_3 R s_0 del_1 i_5
def zfy_0 (R : Sl → World → Prop) (s_0 : Sl) (del_1 : Value) : World → Prop :=
 mcall P n_zf2c [(Sl.v s_0), del_1] I fun (x1 : Int) =>
 mif (x1 == (-1))
 (R s_0)
 (zfy_1 R s_0 del_1 x1)
theorem zfy_2_ok (R : Sl → World → Prop) (x : Sl × Int × Unit) (w : World) (h : zfy_2 R x.1 x.2.1 w) : WPC P 42 [] (Code.at zfy_B [.snd, .snd, .snd, .snd]) (zfy_q1 R) (mkE 42 zfy_l3 x) w :=
  pc_end h
theorem zfy_6_ok (c1 : (Int × Int × Unit) → (Sl × Value × Unit) → World → Prop) (R : Sl → World → Prop) (x : Sl × Value × Int × Int × Unit) (w : World) (h : zfy_6 c1 R x.1 x.2.1 x.2.2.1 x.2.2.2.1 w) : WPC P 42 [] (Code.at zfy_B [.snd, .snd, .snd, .fst, .snd, .blk, .blk, .snd, .snd]) (zfy_q3 c1 R) (mkE 42 zfy_l7 x) w :=
  pc_end h
theorem zfy_5_ok (c1 : (Int × Int × Unit) → (Sl × Value × Unit) → World → Prop) (R : Sl → World → Prop) (x : Int × Int × Unit) (y : Sl × Value × Unit) (w : World) (h : zfy_5 c1 R x.1 x.2.1 y.1 y.2.1 w) : WPC P 42 [] (Code.at zfy_B [.snd, .snd, .snd, .fst, .snd, .blk, .blk]) (zfy_q3 c1 R) (mkE2 42 zfy_l5 zfy_l6 x y) w :=
  pc_cut (l := zfy_l7) 2 (zfy_6_ok c1 R) h
theorem zfy_4_ok (R : Sl → World → Prop) (x : Int × Int × Unit) (y : Sl × Value × Unit) (w : World) (h : zfy_4 R x.1 x.2.1 y.1 y.2.1 w) : WPC P 42 [] (Code.at zfy_B [.snd, .snd, .snd, .fst, .snd]) (zfy_q2 R) (mkE2 42 zfy_l5 zfy_l6 x y) w :=
  pc_loopE (l := zfy_l5) (l' := zfy_l6) (id := 0) (b := (Code.at zfy_B [.snd, .snd, .snd, .fst, .snd, .blk, .blk])) (fun c1 s => zfy_5_ok c1 R s y) h
theorem zfy_3_ok (R : Sl → World → Prop) (x : Sl × Value × Int × Unit) (w : World) (h : zfy_3 R x.1 x.2.1 x.2.2.1 w) : WPC P 42 [] (Code.at zfy_B [.snd, .snd, .snd, .fst]) (zfy_q2 R) (mkE 42 zfy_l4 x) w :=
  pc_cut2 (l := zfy_l5) (l' := zfy_l6) 1 (zfy_4_ok R) h
theorem zfy_1_ok (R : Sl → World → Prop) (x : Sl × Value × Int × Unit) (w : World) (h : zfy_1 R x.1 x.2.1 x.2.2.1 w) : WPC P 42 [] (Code.at zfy_B [.snd, .snd, .snd]) (zfy_q1 R) (mkE 42 zfy_l2 x) w :=
  pc_seq (l := zfy_l3) (a := (Code.at zfy_B [.snd, .snd, .snd, .fst])) (b := (Code.at zfy_B [.snd, .snd, .snd, .snd])) (pc_cut (l := zfy_l4) (c := (Code.at zfy_B [.snd, .snd, .snd, .fst])) 0 (zfy_3_ok R) h) (zfy_2_ok R)
theorem zfy_0_ok (R : Sl → World → Prop) (x : Sl × Value × Unit) (w : World) (h : zfy_0 R x.1 x.2.1 w) : WPC P 42 [] (Code.at zfy_B []) (zfy_q1 R) (mkE 42 zfy_l1 x) w :=
  pc_cut (l := zfy_l2) 3 (zfy_1_ok R) h
theorem zfy_call (R : Sl → World → Prop) (s_0 : Sl) (del_1 : Value) (w : World) (h : zfy_0 R s_0 del_1 w) : mcall P n_zfy [(Sl.v s_0), del_1] .sl R w :=
  pc_top (l := zfy_l1) (c := zfy_B) Tryz.func37 (zfy_0_ok R) h
noncomputable abbrev zfz_B : Code := (Tryz.f38.body).getD .skip
abbrev zfz_q1 (R : Bool → World → Prop) := (topQ P [.tmp 5] .b R)
abbrev zfz_l1 : Slots := [(0, zk6), (1, .ad), (2, .ad), (3, .ad)]
def zfz_0 (R : Bool → World → Prop) (c_0 : zT6) (v1 : Addr) (v2 : Addr) (v3 : Addr) : World → Prop :=
 bx P zth zk6 c_0 fun a1 =>
 ld P zt5 v1 zk0 fun (x2 : zT0) =>
 ld P zt1 (ad a1 1) I fun (x3 : Int) =>
 ld P zt1 v2 I fun (x4 : Int) =>
 mcall P n_zfw [(KV zk0 x2), (.int .i64 x3), (.int .i64 x4)] .b fun (x5 : Bool) =>
 mif (!x5)
 (R false)
 (ld P zt8 v3 .sl fun (x6 : Sl) =>
 ld P zth a1 zk6 fun (x7 : zT6) =>
 bsl P zt8 zk6 [x7] fun x8 =>
 app P #[zt8, zt8] zt8 (Sl.v x6) (Sl.v x8) fun x9 =>
 sto P zt8 v3 .sl x9 <|
 R true)
theorem zfz_0_ok (R : Bool → World → Prop) (x : zT6 × Addr × Addr × Addr × Unit) (w : World) (h : zfz_0 R x.1 x.2.1 x.2.2.1 x.2.2.2.1 w) : WPC P 17 [] (Code.at zfz_B []) (zfz_q1 R) (mkE 17 zfz_l1 x) w :=
  pc_end h
theorem zfz_call (R : Bool → World → Prop) (c_0 : zT6) (v1 : Addr) (v2 : Addr) (v3 : Addr) (w : World) (h : zfz_0 R c_0 v1 v2 v3 w) : mcall P n_zfz [(KV zk6 c_0), .pointer (some v1), .pointer (some v2), .pointer (some v3)] .b R w :=
  pc_top (l := zfz_l1) (c := zfz_B) Tryz.func38 (zfz_0_ok R) h
noncomputable abbrev zf10_B : Code := (Tryz.f39.body).getD .skip
abbrev zf10_q1 (R : (Int × Bool × Unit) → World → Prop) := (topQ P [.tmp 2, .tmp 3] (.tup [I, .b]) R)
abbrev zf10_l1 : Slots := [(0, zk2)]
def zf10_0 (R : (Int × Bool × Unit) → World → Prop) (r_0 : zT2) : World → Prop :=
 bx P ztc zk2 r_0 fun a1 =>
 ld P zt4 (ad a1 2) .s fun (x2 : Bs) =>
 mcall P n_zf2d [(.string ⟨x2.toArray⟩)] (.tup [I, .s, I]) fun (x3 : Int × Bs × Int × Unit) =>
 mif (x3.2.2.1 == 0)
 (R (x3.1, x3.2.1 == [], ()))
 (R (x3.1, false, ()))
theorem zf10_0_ok (R : (Int × Bool × Unit) → World → Prop) (x : zT2 × Unit) (w : World) (h : zf10_0 R x.1 w) : WPC P 21 [] (Code.at zf10_B []) (zf10_q1 R) (mkE 21 zf10_l1 x) w :=
  pc_end h
theorem zf10_call (R : (Int × Bool × Unit) → World → Prop) (r_0 : zT2) (w : World) (h : zf10_0 R r_0 w) : mcall P n_zf10 [(KV zk2 r_0)] (.tup [I, .b]) R w :=
  pc_top (l := zf10_l1) (c := zf10_B) Tryz.func39 (zf10_0_ok R) h
noncomputable abbrev zf11_B : Code := (Tryz.f40.body).getD .skip
abbrev zf11_q1 (R : (Sl × Int × Unit) → World → Prop) := (topQ P [.tmp 4, .tmp 5] (.tup [.sl, I]) R)
abbrev zf11_l1 : Slots := [(0, zk0), (1, I)]
abbrev zf11_l2 : Slots := [(1, I), (2, .ad), (6, .sl)]
abbrev zf11_l3 : Slots := [(6, .sl)]
abbrev zf11_l4 : Slots := [(6, .sl), (8, .sl)]
abbrev zf11_l5 : Slots := [(8, .sl)]
def zf11_4 (R : (Sl × Int × Unit) → World → Prop) (out_8 : Sl) : World → Prop :=
 R (out_8, 0, ())
abbrev zf11_q2 (R : (Sl × Int × Unit) → World → Prop) := (thenQ (fun env => getE env zf11_l5 fun (x : Sl × Unit) => zf11_4 R x.1) (zf11_q1 R))
abbrev zf11_l6 : Slots := [(6, .sl), (8, .sl)]
abbrev zf11_l7 : Slots := [(8, .sl), (9, I)]
abbrev zf11_l8 : Slots := [(6, .sl)]
abbrev zf11_q3 (c1 : (Sl × Int × Unit) → (Sl × Unit) → World → Prop) (R : (Sl × Int × Unit) → World → Prop) := (thenQ (fun env => getE env zf11_l7 fun (s : Sl × Int × Unit) => getE env zf11_l8 (c1 s)) (blockQ 2 ((zf11_q2 R) .normal) (zf11_q2 R)))
def zf11_7 (c1 : (Sl × Int × Unit) → (Sl × Unit) → World → Prop) (R : (Sl × Int × Unit) → World → Prop) (out_8 : Sl) (i_9 : Int) (down_6 : Sl) : World → Prop :=
 mif (decide (i_9 ≥ 0))
 (ixa P zt7 (Sl.v down_6) i_9 fun x4 =>
 ld P zt1 x4 I fun (x5 : Int) =>
 bsl P zt7 I [x5] fun x6 =>
 app P #[zt7, zt7] zt7 (Sl.v out_8) (Sl.v x6) fun x7 =>
 c1 (x7, w64 (i_9 - 1), ()) (down_6, ()))
 (zf11_4 R out_8)
def zf11_6 (R : (Sl × Int × Unit) → World → Prop) (out_8 : Sl) (i_9 : Int) (down_6 : Sl) : World → Prop :=
 W.Loop (down_6, ()) (fun (c1 : (Sl × Int × Unit) → (Sl × Unit) → World → Prop) (s : Sl × Int × Unit) => zf11_7 c1 R s.1 s.2.1 down_6) (out_8, i_9, ())
def zf11_5 (R : (Sl × Int × Unit) → World → Prop) (down_6 : Sl) (out_8 : Sl) : World → Prop :=
 zf11_6 R out_8 (w64 ((down_6.len : Int) - 1)) down_6
def zf11_3 (R : (Sl × Int × Unit) → World → Prop) (down_6 : Sl) (out_8 : Sl) : World → Prop :=
 zf11_5 R down_6 out_8
def zf11_2 (R : (Sl × Int × Unit) → World → Prop) (down_6 : Sl) : World → Prop :=
 zf11_3 R down_6 ⟨none, 0, 0⟩
abbrev zf11_q4 (R : (Sl × Int × Unit) → World → Prop) := (thenQ (fun env => getE env zf11_l3 fun (x : Sl × Unit) => zf11_2 R x.1) (zf11_q1 R))
abbrev zf11_l9 : Slots := [(1, I), (2, .ad), (6, .sl)]
abbrev zf11_l10 : Slots := [(6, .sl), (7, I)]
abbrev zf11_l11 : Slots := [(1, I), (2, .ad)]
abbrev zf11_q5 (c1 : (Sl × Int × Unit) → (Int × Addr × Unit) → World → Prop) (R : (Sl × Int × Unit) → World → Prop) := (thenQ (fun env => getE env zf11_l10 fun (s : Sl × Int × Unit) => getE env zf11_l11 (c1 s)) (blockQ 0 ((zf11_q4 R) .normal) (zf11_q4 R)))
def zf11_10 (c1 : (Sl × Int × Unit) → (Int × Addr × Unit) → World → Prop) (R : (Sl × Int × Unit) → World → Prop) (down_6 : Sl) (s_7 : Int) (t_1 : Int) (g_2 : Addr) : World → Prop :=
 mif (decide (s_7 ≥ 0))
 (ld P zt1 g_2 I fun (x10 : Int) =>
 mif (decide ((w64 (s_7 + x10)) > t_1))
 (bsl P zt7 I [s_7] fun x11 =>
 app P #[zt7, zt7] zt7 (Sl.v down_6) (Sl.v x11) fun x12 =>
 ld P zt1 (ad g_2 1) I fun (x13 : Int) =>
 c1 (x12, w64 (s_7 - x13), ()) (t_1, g_2, ()))
 (zf11_2 R down_6))
 (zf11_2 R down_6)
def zf11_9 (R : (Sl × Int × Unit) → World → Prop) (down_6 : Sl) (s_7 : Int) (t_1 : Int) (g_2 : Addr) : World → Prop :=
 W.Loop (t_1, g_2, ()) (fun (c1 : (Sl × Int × Unit) → (Int × Addr × Unit) → World → Prop) (s : Sl × Int × Unit) => zf11_10 c1 R s.1 s.2.1 t_1 g_2) (down_6, s_7, ())
def zf11_8 (R : (Sl × Int × Unit) → World → Prop) (t_1 : Int) (g_2 : Addr) (down_6 : Sl) : World → Prop :=
 mdraw <|
 ld P zt1 (ad g_2 1) I fun (x8 : Int) =>
 mdz x8 <|
 ld P zt1 (ad g_2 1) I fun (x9 : Int) =>
 zf11_9 R down_6 (w64 ((w64 (t_1.tdiv x8)) * x9)) t_1 g_2
def zf11_1 (R : (Sl × Int × Unit) → World → Prop) (t_1 : Int) (g_2 : Addr) (down_6 : Sl) : World → Prop :=
 zf11_8 R t_1 g_2 down_6
def zf11_0 (R : (Sl × Int × Unit) → World → Prop) (g_0 : zT0) (t_1 : Int) : World → Prop :=
 bx P zt5 zk0 g_0 fun a1 =>
 ld P zt5 a1 zk0 fun (x2 : zT0) =>
 mcall P n_zfh [(KV zk0 x2)] .b fun (x3 : Bool) =>
 mif (!x3)
 (R (⟨none, 0, 0⟩, 1, ()))
 (mif (decide (t_1 < 0))
 (R (⟨none, 0, 0⟩, 1, ()))
 (mif (decide (t_1 > 1099511627776))
 (R (⟨none, 0, 0⟩, 1, ()))
 (zf11_1 R t_1 a1 ⟨none, 0, 0⟩)))
theorem zf11_4_ok (R : (Sl × Int × Unit) → World → Prop) (x : Sl × Unit) (w : World) (h : zf11_4 R x.1 w) : WPC P 61 [] (Code.at zf11_B [.snd, .snd, .snd, .snd, .snd, .snd]) (zf11_q1 R) (mkE 61 zf11_l5 x) w :=
  pc_end h
theorem zf11_7_ok (c1 : (Sl × Int × Unit) → (Sl × Unit) → World → Prop) (R : (Sl × Int × Unit) → World → Prop) (x : Sl × Int × Unit) (y : Sl × Unit) (w : World) (h : zf11_7 c1 R x.1 x.2.1 y.1 w) : WPC P 61 [] (Code.at zf11_B [.snd, .snd, .snd, .snd, .snd, .fst, .snd, .blk, .blk]) (zf11_q3 c1 R) (mkE2 61 zf11_l7 zf11_l8 x y) w :=
  pc_end h
theorem zf11_6_ok (R : (Sl × Int × Unit) → World → Prop) (x : Sl × Int × Unit) (y : Sl × Unit) (w : World) (h : zf11_6 R x.1 x.2.1 y.1 w) : WPC P 61 [] (Code.at zf11_B [.snd, .snd, .snd, .snd, .snd, .fst, .snd]) (zf11_q2 R) (mkE2 61 zf11_l7 zf11_l8 x y) w :=
  pc_loopE (l := zf11_l7) (l' := zf11_l8) (id := 2) (b := (Code.at zf11_B [.snd, .snd, .snd, .snd, .snd, .fst, .snd, .blk, .blk])) (fun c1 s => zf11_7_ok c1 R s y) h
theorem zf11_5_ok (R : (Sl × Int × Unit) → World → Prop) (x : Sl × Sl × Unit) (w : World) (h : zf11_5 R x.1 x.2.1 w) : WPC P 61 [] (Code.at zf11_B [.snd, .snd, .snd, .snd, .snd, .fst]) (zf11_q2 R) (mkE 61 zf11_l6 x) w :=
  pc_cut2 (l := zf11_l7) (l' := zf11_l8) 1 (zf11_6_ok R) h
theorem zf11_3_ok (R : (Sl × Int × Unit) → World → Prop) (x : Sl × Sl × Unit) (w : World) (h : zf11_3 R x.1 x.2.1 w) : WPC P 61 [] (Code.at zf11_B [.snd, .snd, .snd, .snd, .snd]) (zf11_q1 R) (mkE 61 zf11_l4 x) w :=
  pc_seq (l := zf11_l5) (a := (Code.at zf11_B [.snd, .snd, .snd, .snd, .snd, .fst])) (b := (Code.at zf11_B [.snd, .snd, .snd, .snd, .snd, .snd])) (pc_cut (l := zf11_l6) (c := (Code.at zf11_B [.snd, .snd, .snd, .snd, .snd, .fst])) 0 (zf11_5_ok R) h) (zf11_4_ok R)
theorem zf11_2_ok (R : (Sl × Int × Unit) → World → Prop) (x : Sl × Unit) (w : World) (h : zf11_2 R x.1 w) : WPC P 61 [] (Code.at zf11_B [.snd, .snd, .snd, .snd]) (zf11_q1 R) (mkE 61 zf11_l3 x) w :=
  pc_cut (l := zf11_l4) 1 (zf11_3_ok R) h
theorem zf11_10_ok (c1 : (Sl × Int × Unit) → (Int × Addr × Unit) → World → Prop) (R : (Sl × Int × Unit) → World → Prop) (x : Sl × Int × Unit) (y : Int × Addr × Unit) (w : World) (h : zf11_10 c1 R x.1 x.2.1 y.1 y.2.1 w) : WPC P 61 [] (Code.at zf11_B [.snd, .snd, .snd, .fst, .snd, .blk, .blk]) (zf11_q5 c1 R) (mkE2 61 zf11_l10 zf11_l11 x y) w :=
  pc_end h
theorem zf11_9_ok (R : (Sl × Int × Unit) → World → Prop) (x : Sl × Int × Unit) (y : Int × Addr × Unit) (w : World) (h : zf11_9 R x.1 x.2.1 y.1 y.2.1 w) : WPC P 61 [] (Code.at zf11_B [.snd, .snd, .snd, .fst, .snd]) (zf11_q4 R) (mkE2 61 zf11_l10 zf11_l11 x y) w :=
  pc_loopE (l := zf11_l10) (l' := zf11_l11) (id := 0) (b := (Code.at zf11_B [.snd, .snd, .snd, .fst, .snd, .blk, .blk])) (fun c1 s => zf11_10_ok c1 R s y) h
theorem zf11_8_ok (R : (Sl × Int × Unit) → World → Prop) (x : Int × Addr × Sl × Unit) (w : World) (h : zf11_8 R x.1 x.2.1 x.2.2.1 w) : WPC P 61 [] (Code.at zf11_B [.snd, .snd, .snd, .fst]) (zf11_q4 R) (mkE 61 zf11_l9 x) w :=
  pc_cut2 (l := zf11_l10) (l' := zf11_l11) 1 (zf11_9_ok R) h
theorem zf11_1_ok (R : (Sl × Int × Unit) → World → Prop) (x : Int × Addr × Sl × Unit) (w : World) (h : zf11_1 R x.1 x.2.1 x.2.2.1 w) : WPC P 61 [] (Code.at zf11_B [.snd, .snd, .snd]) (zf11_q1 R) (mkE 61 zf11_l2 x) w :=
  pc_seq (l := zf11_l3) (a := (Code.at zf11_B [.snd, .snd, .snd, .fst])) (b := (Code.at zf11_B [.snd, .snd, .snd, .snd])) (pc_cut (l := zf11_l9) (c := (Code.at zf11_B [.snd, .snd, .snd, .fst])) 0 (zf11_8_ok R) h) (zf11_2_ok R)
theorem zf11_0_ok (R : (Sl × Int × Unit) → World → Prop) (x : zT0 × Int × Unit) (w : World) (h : zf11_0 R x.1 x.2.1 w) : WPC P 61 [] (Code.at zf11_B []) (zf11_q1 R) (mkE 61 zf11_l1 x) w :=
  pc_cut (l := zf11_l2) 3 (zf11_1_ok R) h
theorem zf11_call (R : (Sl × Int × Unit) → World → Prop) (g_0 : zT0) (t_1 : Int) (w : World) (h : zf11_0 R g_0 t_1 w) : mcall P n_zf11 [(KV zk0 g_0), (.int .i64 t_1)] (.tup [.sl, I]) R w :=
  pc_top (l := zf11_l1) (c := zf11_B) Tryz.func40 (zf11_0_ok R) h
noncomputable abbrev zf12_B : Code := (Tryz.f41.body).getD .skip
abbrev zf12_q1 (R : Sl → World → Prop) := (topQ P [.tmp 8] .sl R)
abbrev zf12_l1 : Slots := [(0, .sl), (1, I), (2, I), (3, I)]
abbrev zf12_l2 : Slots := [(10, .sl), (11, I)]
abbrev zf12_l3 : Slots := [(0, .sl), (3, I), (9, .ad)]
abbrev zf12_l4 : Slots := [(0, .sl), (3, I), (9, .ad), (10, .sl), (11, I)]
abbrev zf12_l5 : Slots := [(0, .sl), (3, I), (9, .ad), (10, .sl), (11, I)]
def zf12_3 (R : Sl → World → Prop) (l_0 : Sl) (v_3 : Int) (x_9 : Addr) (out_10 : Sl) (i_11 : Int) : World → Prop :=
 ld P ztg (ad x_9 2) zk5 fun (x8 : zT5) =>
 mcall P n_zf2e [(KV zk5 x8), (.int .i64 v_3)] zk5 fun (x9 : zT5) =>
 sto P ztg (ad x_9 2) zk5 x9 <|
 ld P zth x_9 zk6 fun (x10 : zT6) =>
 bsl P zt8 zk6 [x10] fun x11 =>
 app P #[zt8, zt8] zt8 (Sl.v out_10) (Sl.v x11) fun x12 =>
 slc P zt8 l_0 (some i_11) none fun x13 =>
 app P #[zt8, zt8] zt8 (Sl.v x12) (Sl.v x13) fun x14 =>
 R x14
def zf12_2 (R : Sl → World → Prop) (l_0 : Sl) (v_3 : Int) (x_9 : Addr) (out_10 : Sl) (i_11 : Int) : World → Prop :=
 mdraw <|
 mif (decide (i_11 < (l_0.len : Int)))
 (ld P zth x_9 zk6 fun (x2 : zT6) =>
 ixa P zt8 (Sl.v l_0) i_11 fun x3 =>
 ld P zth x3 zk6 fun (x4 : zT6) =>
 mcall P n_zfl [(KV zk6 x2), (KV zk6 x4)] .b fun (x5 : Bool) =>
 mif (!x5)
 (ixa P zt8 (Sl.v l_0) i_11 fun x6 =>
 ld P zth x6 zk6 fun (x7 : zT6) =>
 sto P zth x_9 zk6 x7 <|
 zf12_3 R l_0 v_3 x_9 out_10 (w64 (i_11 + 1)))
 (zf12_3 R l_0 v_3 x_9 out_10 i_11))
 (zf12_3 R l_0 v_3 x_9 out_10 i_11)
abbrev zf12_q2 (c1 : (Sl × Int × Unit) → (Sl × Int × Addr × Unit) → World → Prop) (R : Sl → World → Prop) := (thenQ (fun env => getE env zf12_l2 fun (s : Sl × Int × Unit) => getE env zf12_l3 (c1 s)) (blockQ 0 (fun env => getE env zf12_l4 fun (x : Sl × Int × Addr × Sl × Int × Unit) => zf12_2 R x.1 x.2.1 x.2.2.1 x.2.2.2.1 x.2.2.2.2.1) (zf12_q1 R)))
def zf12_4 (c1 : (Sl × Int × Unit) → (Sl × Int × Addr × Unit) → World → Prop) (R : Sl → World → Prop) (out_10 : Sl) (i_11 : Int) (l_0 : Sl) (v_3 : Int) (x_9 : Addr) : World → Prop :=
 mdraw <|
 mif (decide (i_11 < (l_0.len : Int)))
 (ixa P zt8 (Sl.v l_0) i_11 fun x15 =>
 ld P zth x15 zk6 fun (x16 : zT6) =>
 ld P zth x_9 zk6 fun (x17 : zT6) =>
 mcall P n_zfl [(KV zk6 x16), (KV zk6 x17)] .b fun (x18 : Bool) =>
 mif x18
 (ixa P zt8 (Sl.v l_0) i_11 fun x19 =>
 ld P zth x19 zk6 fun (x20 : zT6) =>
 bsl P zt8 zk6 [x20] fun x21 =>
 app P #[zt8, zt8] zt8 (Sl.v out_10) (Sl.v x21) fun x22 =>
 c1 (x22, w64 (i_11 + 1), ()) (l_0, v_3, x_9, ()))
 (zf12_2 R l_0 v_3 x_9 out_10 i_11))
 (zf12_2 R l_0 v_3 x_9 out_10 i_11)
def zf12_1 (R : Sl → World → Prop) (out_10 : Sl) (i_11 : Int) (l_0 : Sl) (v_3 : Int) (x_9 : Addr) : World → Prop :=
 W.Loop (l_0, v_3, x_9, ()) (fun (c1 : (Sl × Int × Unit) → (Sl × Int × Addr × Unit) → World → Prop) (s : Sl × Int × Unit) => zf12_4 c1 R s.1 s.2.1 l_0 v_3 x_9) (out_10, i_11, ())
def zf12_0 (R : Sl → World → Prop) (l_0 : Sl) (key_1 : Int) (start_2 : Int) (v_3 : Int) : World → Prop :=
 alo P zth fun a1 =>
 sto P zth a1 zk6 (key_1, start_2, (0, 0, 0, 0, (0, 0, 0, 0, ()), 0, 0, ()), ()) <|
 zf12_1 R ⟨none, 0, 0⟩ 0 l_0 v_3 a1
theorem zf12_3_ok (R : Sl → World → Prop) (x : Sl × Int × Addr × Sl × Int × Unit) (w : World) (h : zf12_3 R x.1 x.2.1 x.2.2.1 x.2.2.2.1 x.2.2.2.2.1 w) : WPC P 70 [] (Code.at zf12_B [.snd, .snd, .snd, .snd, .snd, .snd]) (zf12_q1 R) (mkE 70 zf12_l5 x) w :=
  pc_end h
theorem zf12_2_ok (R : Sl → World → Prop) (x : Sl × Int × Addr × Sl × Int × Unit) (w : World) (h : zf12_2 R x.1 x.2.1 x.2.2.1 x.2.2.2.1 x.2.2.2.2.1 w) : WPC P 70 [] (Code.at zf12_B [.snd, .snd, .snd, .snd, .snd]) (zf12_q1 R) (mkE 70 zf12_l4 x) w :=
  pc_cut (l := zf12_l5) 1 (zf12_3_ok R) h
theorem zf12_4_ok (c1 : (Sl × Int × Unit) → (Sl × Int × Addr × Unit) → World → Prop) (R : Sl → World → Prop) (x : Sl × Int × Unit) (y : Sl × Int × Addr × Unit) (w : World) (h : zf12_4 c1 R x.1 x.2.1 y.1 y.2.1 y.2.2.1 w) : WPC P 70 [] (Code.at zf12_B [.snd, .snd, .snd, .snd, .fst, .blk, .blk]) (zf12_q2 c1 R) (mkE2 70 zf12_l2 zf12_l3 x y) w :=
  pc_end h
theorem zf12_1_ok (R : Sl → World → Prop) (x : Sl × Int × Unit) (y : Sl × Int × Addr × Unit) (w : World) (h : zf12_1 R x.1 x.2.1 y.1 y.2.1 y.2.2.1 w) : WPC P 70 [] (Code.at zf12_B [.snd, .snd, .snd, .snd]) (zf12_q1 R) (mkE2 70 zf12_l2 zf12_l3 x y) w :=
  pc_loopR (l := zf12_l2) (l' := zf12_l3) (lr := zf12_l4) (FR := fun (x : Sl × Int × Addr × Sl × Int × Unit) => zf12_2 R x.1 x.2.1 x.2.2.1 x.2.2.2.1 x.2.2.2.2.1) (id := 0) (b := (Code.at zf12_B [.snd, .snd, .snd, .snd, .fst, .blk, .blk])) (rest := (Code.at zf12_B [.snd, .snd, .snd, .snd, .snd])) (fun c1 s => zf12_4_ok c1 R s y) (zf12_2_ok R) h
theorem zf12_0_ok (R : Sl → World → Prop) (x : Sl × Int × Int × Int × Unit) (w : World) (h : zf12_0 R x.1 x.2.1 x.2.2.1 x.2.2.2.1 w) : WPC P 70 [] (Code.at zf12_B []) (zf12_q1 R) (mkE 70 zf12_l1 x) w :=
  pc_cut2 (l := zf12_l2) (l' := zf12_l3) 4 (zf12_1_ok R) h
theorem zf12_call (R : Sl → World → Prop) (l_0 : Sl) (key_1 : Int) (start_2 : Int) (v_3 : Int) (w : World) (h : zf12_0 R l_0 key_1 start_2 v_3 w) : mcall P n_zf12 [(Sl.v l_0), (.int .i64 key_1), (.int .i64 start_2), (.int .i64 v_3)] .sl R w :=
  pc_top (l := zf12_l1) (c := zf12_B) Tryz.func41 (zf12_0_ok R) h
noncomputable abbrev zf13_B : Code := (Tryz.f42.body).getD .skip
abbrev zf13_q1 (R : zT2 → World → Prop) := (topQ P [.cell 2 ztc] zk2 R)
abbrev zf13_l1 : Slots := [(0, zk1)]
def zf13_0 (R : zT2 → World → Prop) (s_0 : zT1) : World → Prop :=
 bx P zt9 zk1 s_0 fun a1 =>
 alo P ztc fun a2 =>
 ld P zt1 a1 I fun (x3 : Int) =>
 ld P zt1 (ad a1 1) I fun (x4 : Int) =>
 ld P zt1 (ad a1 2) I fun (x5 : Int) =>
 ld P zt1 (ad a1 3) I fun (x6 : Int) =>
 bsl P zt7 I [0, x3, x4, x5, x6] fun x7 =>
 mcall P n_zf2f [(Sl.v x7)] .s fun (x8 : Bs) =>
 sto P ztc a2 zk2 (0, 0, x8, ()) <|
 ld P ztc a2 zk2 fun (x9 : zT2) =>
 R x9
theorem zf13_0_ok (R : zT2 → World → Prop) (x : zT1 × Unit) (w : World) (h : zf13_0 R x.1 w) : WPC P 14 [] (Code.at zf13_B []) (zf13_q1 R) (mkE 14 zf13_l1 x) w :=
  pc_end h
theorem zf13_call (R : zT2 → World → Prop) (s_0 : zT1) (w : World) (h : zf13_0 R s_0 w) : mcall P n_zf13 [(KV zk1 s_0)] zk2 R w :=
  pc_top (l := zf13_l1) (c := zf13_B) Tryz.func42 (zf13_0_ok R) h
noncomputable abbrev zf14_B : Code := (Tryz.f43.body).getD .skip
abbrev zf14_q1 (R : Bool → World → Prop) := (topQ P [.tmp 4] .b R)
abbrev zf14_l1 : Slots := [(0, zk6), (1, zk6)]
def zf14_0 (R : Bool → World → Prop) (a_0 : zT6) (b_1 : zT6) : World → Prop :=
 bx P zth zk6 a_0 fun a1 =>
 bx P zth zk6 b_1 fun a2 =>
 ld P zt1 (ad a1 1) I fun (x3 : Int) =>
 ld P zt1 (ad a2 1) I fun (x4 : Int) =>
 mif (decide (x3 < x4))
 (R true)
 (ld P zt1 (ad a1 1) I fun (x5 : Int) =>
 ld P zt1 (ad a2 1) I fun (x6 : Int) =>
 mif (x5 == x6)
 (ld P zt1 a1 I fun (x7 : Int) =>
 ld P zt1 a2 I fun (x8 : Int) =>
 R (decide (x7 < x8)))
 (R false))
theorem zf14_0_ok (R : Bool → World → Prop) (x : zT6 × zT6 × Unit) (w : World) (h : zf14_0 R x.1 x.2.1 w) : WPC P 24 [] (Code.at zf14_B []) (zf14_q1 R) (mkE 24 zf14_l1 x) w :=
  pc_end h
theorem zf14_call (R : Bool → World → Prop) (a_0 : zT6) (b_1 : zT6) (w : World) (h : zf14_0 R a_0 b_1 w) : mcall P n_zf14 [(KV zk6 a_0), (KV zk6 b_1)] .b R w :=
  pc_top (l := zf14_l1) (c := zf14_B) Tryz.func43 (zf14_0_ok R) h
noncomputable abbrev zf15_B : Code := (Tryz.f44.body).getD .skip
abbrev zf15_q1 (R : zT2 → World → Prop) := (topQ P [.cell 4 ztc] zk2 R)
abbrev zf15_l1 : Slots := [(0, zk6), (1, I)]
abbrev zf15_l2 : Slots := [(2, .ad), (4, .ad), (5, .s)]
def zf15_1 (R : zT2 → World → Prop) (c_2 : Addr) (v4 : Addr) (t_5 : Bs) : World → Prop :=
 ld P zt1 c_2 I fun (x7 : Int) =>
 ld P zt1 (ad c_2 1) I fun (x8 : Int) =>
 sto P ztc v4 zk2 (x7, x8, t_5, ()) <|
 ld P ztc v4 zk2 fun (x9 : zT2) =>
 R x9
def zf15_0 (R : zT2 → World → Prop) (c_0 : zT6) (sort_1 : Int) : World → Prop :=
 bx P zth zk6 c_0 fun a1 =>
 alo P ztc fun a2 =>
 mcall P n_zf2g [(.int .i64 sort_1)] .s fun (x3 : Bs) =>
 mif (sort_1 == 1)
 (ld P ztg (ad a1 2) zk5 fun (x4 : zT5) =>
 mcall P n_zf2h [(KV zk5 x4)] (.tup [.s, I]) fun (x5 : Bs × Int × Unit) =>
 mcat x3 x5.1 fun s6 =>
 zf15_1 R a1 a2 s6)
 (zf15_1 R a1 a2 x3)
theorem zf15_1_ok (R : zT2 → World → Prop) (x : Addr × Addr × Bs × Unit) (w : World) (h : zf15_1 R x.1 x.2.1 x.2.2.1 w) : WPC P 27 [] (Code.at zf15_B [.snd, .snd, .snd]) (zf15_q1 R) (mkE 27 zf15_l2 x) w :=
  pc_end h
theorem zf15_0_ok (R : zT2 → World → Prop) (x : zT6 × Int × Unit) (w : World) (h : zf15_0 R x.1 x.2.1 w) : WPC P 27 [] (Code.at zf15_B []) (zf15_q1 R) (mkE 27 zf15_l1 x) w :=
  pc_cut (l := zf15_l2) 3 (zf15_1_ok R) h
theorem zf15_call (R : zT2 → World → Prop) (c_0 : zT6) (sort_1 : Int) (w : World) (h : zf15_0 R c_0 sort_1 w) : mcall P n_zf15 [(KV zk6 c_0), (.int .i64 sort_1)] zk2 R w :=
  pc_top (l := zf15_l1) (c := zf15_B) Tryz.func44 (zf15_0_ok R) h
noncomputable abbrev zf16_B : Code := (Tryz.f45.body).getD .skip
abbrev zf16_q1 (R : (Bs × Int × Unit) → World → Prop) := (topQ P [.tmp 2, .tmp 3] (.tup [.s, I]) R)
abbrev zf16_l1 : Slots := [(0, .sl)]
abbrev zf16_l2 : Slots := [(0, .sl), (5, .ad)]
abbrev zf16_l3 : Slots := [(5, .ad)]
def zf16_2 (R : (Bs × Int × Unit) → World → Prop) (b_5 : Addr) : World → Prop :=
 mcall P n_zf2m [(.pointer (some b_5))] .s fun (x5 : Bs) =>
 mcall P n_zf2l [(.string ⟨x5.toArray⟩)] .s fun (x6 : Bs) =>
 R (x6, 0, ())
abbrev zf16_q2 (R : (Bs × Int × Unit) → World → Prop) := (thenQ (fun env => getE env zf16_l3 fun (x : Addr × Unit) => zf16_2 R x.1) (zf16_q1 R))
abbrev zf16_l4 : Slots := [(0, .sl), (5, .ad)]
abbrev zf16_l5 : Slots := [(19, I)]
abbrev zf16_l6 : Slots := [(5, .ad), (17, .sl), (18, I)]
abbrev zf16_q3 (c1 : (Int × Unit) → (Addr × Sl × Int × Unit) → World → Prop) (R : (Bs × Int × Unit) → World → Prop) := (thenQ (fun env => getE env zf16_l5 fun (s : Int × Unit) => getE env zf16_l6 (c1 s)) (blockQ 0 ((zf16_q2 R) .normal) (zf16_q2 R)))
def zf16_5 (c1 : (Int × Unit) → (Addr × Sl × Int × Unit) → World → Prop) (R : (Bs × Int × Unit) → World → Prop) (v19 : Int) (b_5 : Addr) (v17 : Sl) (v18 : Int) : World → Prop :=
 mif (decide (v19 < v18))
 (ixa P zta (Sl.v v17) v19 fun x7 =>
 ld P ztd x7 zk3 fun (x8 : zT3) =>
 alo P ztd fun a9 =>
 sto P ztd a9 zk3 x8 <|
 mdraw <|
 ld P zt1 a9 I fun (x10 : Int) =>
 ld P ztc (ad a9 1) zk2 fun (x11 : zT2) =>
 mcall P n_zf2g [(.int .i64 x10)] .s fun (x12 : Bs) =>
 mst P (Instr.loadAt ztc (.pointer (some (ad a9 1)))) (.agg #[.int .i64 x11.1, .int .i64 x11.2.1, .string ⟨x11.2.2.1.toArray⟩]) <|
 mcall P n_zf2k [(KV zk2 x11)] .s fun (x13 : Bs) =>
 mcat x12 x13 fun s14 =>
 mcall P n_zf2j [(.pointer (some b_5)), (.string ⟨s14.toArray⟩)] (.tup [I, .v]) fun (x15 : Int × Value × Unit) =>
 c1 (w64 (v19 + 1), ()) (b_5, v17, v18, ()))
 (zf16_2 R b_5)
def zf16_4 (R : (Bs × Int × Unit) → World → Prop) (v19 : Int) (b_5 : Addr) (v17 : Sl) (v18 : Int) : World → Prop :=
 W.Loop (b_5, v17, v18, ()) (fun (c1 : (Int × Unit) → (Addr × Sl × Int × Unit) → World → Prop) (s : Int × Unit) => zf16_5 c1 R s.1 b_5 v17 v18) (v19, ())
def zf16_3 (R : (Bs × Int × Unit) → World → Prop) (l_0 : Sl) (b_5 : Addr) : World → Prop :=
 zf16_4 R 0 b_5 l_0 (l_0.len : Int)
def zf16_1 (R : (Bs × Int × Unit) → World → Prop) (l_0 : Sl) (b_5 : Addr) : World → Prop :=
 zf16_3 R l_0 b_5
def zf16_0 (R : (Bs × Int × Unit) → World → Prop) (l_0 : Sl) : World → Prop :=
 mcall P n_zf2i [(Sl.v l_0)] I fun (x1 : Int) =>
 mif (x1 != 0)
 (R ([], x1, ()))
 (alo P zt11 fun a2 =>
 mcall P n_zf2g [(.int .i64 (l_0.len : Int))] .s fun (x3 : Bs) =>
 mcall P n_zf2j [(.pointer (some a2)), (.string ⟨x3.toArray⟩)] (.tup [I, .v]) fun (x4 : Int × Value × Unit) =>
 zf16_1 R l_0 a2)
theorem zf16_2_ok (R : (Bs × Int × Unit) → World → Prop) (x : Addr × Unit) (w : World) (h : zf16_2 R x.1 w) : WPC P 34 [] (Code.at zf16_B [.snd, .snd, .snd, .snd, .snd]) (zf16_q1 R) (mkE 34 zf16_l3 x) w :=
  pc_end h
theorem zf16_5_ok (c1 : (Int × Unit) → (Addr × Sl × Int × Unit) → World → Prop) (R : (Bs × Int × Unit) → World → Prop) (x : Int × Unit) (y : Addr × Sl × Int × Unit) (w : World) (h : zf16_5 c1 R x.1 y.1 y.2.1 y.2.2.1 w) : WPC P 34 [] (Code.at zf16_B [.snd, .snd, .snd, .snd, .fst, .snd, .blk, .blk]) (zf16_q3 c1 R) (mkE2 34 zf16_l5 zf16_l6 x y) w :=
  pc_end h
theorem zf16_4_ok (R : (Bs × Int × Unit) → World → Prop) (x : Int × Unit) (y : Addr × Sl × Int × Unit) (w : World) (h : zf16_4 R x.1 y.1 y.2.1 y.2.2.1 w) : WPC P 34 [] (Code.at zf16_B [.snd, .snd, .snd, .snd, .fst, .snd]) (zf16_q2 R) (mkE2 34 zf16_l5 zf16_l6 x y) w :=
  pc_loopE (l := zf16_l5) (l' := zf16_l6) (id := 0) (b := (Code.at zf16_B [.snd, .snd, .snd, .snd, .fst, .snd, .blk, .blk])) (fun c1 s => zf16_5_ok c1 R s y) h
theorem zf16_3_ok (R : (Bs × Int × Unit) → World → Prop) (x : Sl × Addr × Unit) (w : World) (h : zf16_3 R x.1 x.2.1 w) : WPC P 34 [] (Code.at zf16_B [.snd, .snd, .snd, .snd, .fst]) (zf16_q2 R) (mkE 34 zf16_l4 x) w :=
  pc_cut2 (l := zf16_l5) (l' := zf16_l6) 1 (zf16_4_ok R) h
theorem zf16_1_ok (R : (Bs × Int × Unit) → World → Prop) (x : Sl × Addr × Unit) (w : World) (h : zf16_1 R x.1 x.2.1 w) : WPC P 34 [] (Code.at zf16_B [.snd, .snd, .snd, .snd]) (zf16_q1 R) (mkE 34 zf16_l2 x) w :=
  pc_seq (l := zf16_l3) (a := (Code.at zf16_B [.snd, .snd, .snd, .snd, .fst])) (b := (Code.at zf16_B [.snd, .snd, .snd, .snd, .snd])) (pc_cut (l := zf16_l4) (c := (Code.at zf16_B [.snd, .snd, .snd, .snd, .fst])) 0 (zf16_3_ok R) h) (zf16_2_ok R)
theorem zf16_0_ok (R : (Bs × Int × Unit) → World → Prop) (x : Sl × Unit) (w : World) (h : zf16_0 R x.1 w) : WPC P 34 [] (Code.at zf16_B []) (zf16_q1 R) (mkE 34 zf16_l1 x) w :=
  pc_cut (l := zf16_l2) 4 (zf16_1_ok R) h
theorem zf16_call (R : (Bs × Int × Unit) → World → Prop) (l_0 : Sl) (w : World) (h : zf16_0 R l_0 w) : mcall P n_zf16 [(Sl.v l_0)] (.tup [.s, I]) R w :=
  pc_top (l := zf16_l1) (c := zf16_B) Tryz.func45 (zf16_0_ok R) h
noncomputable abbrev zf17_B : Code := (Tryz.f46.body).getD .skip
abbrev zf17_q1 (R : Bool → World → Prop) := (topQ P [.tmp 2] .b R)
abbrev zf17_l1 : Slots := [(0, .s)]
def zf17_0 (R : Bool → World → Prop) (name_0 : Bs) : World → Prop :=
 mif (!(name_0 == []))
 (mif (decide ((name_0.length : Int) ≤ 16))
 (mcall P n_zf2n [(.string ⟨name_0.toArray⟩), (.string ⟨[97, 98, 99, 100, 101, 102, 103, 104, 105, 106, 107, 108, 109, 110, 111, 112, 113, 114, 115, 116, 117, 118, 119, 120, 121, 122, 48, 49, 50, 51, 52, 53, 54, 55, 56, 57, 45].toArray⟩)] .s fun (x1 : Bs) =>
 R (x1 == []))
 (R false))
 (R false)
theorem zf17_0_ok (R : Bool → World → Prop) (x : Bs × Unit) (w : World) (h : zf17_0 R x.1 w) : WPC P 15 [] (Code.at zf17_B []) (zf17_q1 R) (mkE 15 zf17_l1 x) w :=
  pc_end h
theorem zf17_call (R : Bool → World → Prop) (name_0 : Bs) (w : World) (h : zf17_0 R name_0 w) : mcall P n_zf17 [(.string ⟨name_0.toArray⟩)] .b R w :=
  pc_top (l := zf17_l1) (c := zf17_B) Tryz.func46 (zf17_0_ok R) h
noncomputable abbrev zf18_B : Code := (Tryz.f47.body).getD .skip
abbrev zf18_q1 (R : Bool → World → Prop) := (topQ P [.tmp 4] .b R)
abbrev zf18_l1 : Slots := [(0, .sl), (1, .v)]
def zf18_0 (R : Bool → World → Prop) (s_0 : Sl) (f_1 : Value) : World → Prop :=
 mcall P n_zf2o [(Sl.v s_0), f_1] I fun (x1 : Int) =>
 R (decide (x1 ≥ 0))
theorem zf18_0_ok (R : Bool → World → Prop) (x : Sl × Value × Unit) (w : World) (h : zf18_0 R x.1 x.2.1 w) : WPC P 9 [] (Code.at zf18_B []) (zf18_q1 R) (mkE 9 zf18_l1 x) w :=
  pc_end h
theorem zf18_call (R : Bool → World → Prop) (s_0 : Sl) (f_1 : Value) (w : World) (h : zf18_0 R s_0 f_1 w) : mcall P n_zf18 [(Sl.v s_0), f_1] .b R w :=
  pc_top (l := zf18_l1) (c := zf18_B) Tryz.func47 (zf18_0_ok R) h
noncomputable abbrev zf19_B : Code := (Tryz.f48.body).getD .skip
abbrev zf19_q1 (R : Sl → World → Prop) := (topQ P [.tmp 2] .sl R)
abbrev zf19_l1 : Slots := [(0, .p)]
abbrev zf19_l2 : Slots := [(0, .p), (3, .sl)]
abbrev zf19_l3 : Slots := [(3, .sl)]
def zf19_2 (R : Sl → World → Prop) (l_3 : Sl) : World → Prop :=
 R l_3
abbrev zf19_q2 (R : Sl → World → Prop) := (thenQ (fun env => getE env zf19_l3 fun (x : Sl × Unit) => zf19_2 R x.1) (zf19_q1 R))
abbrev zf19_l4 : Slots := [(0, .p), (3, .sl)]
abbrev zf19_l5 : Slots := [(3, .sl), (17, I)]
abbrev zf19_l6 : Slots := [(0, .p), (15, .sl), (16, I)]
abbrev zf19_q3 (c1 : (Sl × Int × Unit) → (Option Addr × Sl × Int × Unit) → World → Prop) (R : Sl → World → Prop) := (thenQ (fun env => getE env zf19_l5 fun (s : Sl × Int × Unit) => getE env zf19_l6 (c1 s)) (blockQ 0 ((zf19_q2 R) .normal) (zf19_q2 R)))
def zf19_5 (c1 : (Sl × Int × Unit) → (Option Addr × Sl × Int × Unit) → World → Prop) (R : Sl → World → Prop) (l_3 : Sl) (v17 : Int) (d_0 : Option Addr) (v15 : Sl) (v16 : Int) : World → Prop :=
 mif (decide (v17 < v16))
 (ixa P ztp (Sl.v v15) v17 fun x6 =>
 ld P zt4 x6 .s fun (x7 : Bs) =>
 mnil d_0 fun a8 =>
 ld P ztk a8 .m fun (x9 : Option Nat) =>
 lku P ztk x9 .s x7 .p fun (x10 : Option Addr) =>
 mdraw <|
 mnil x10 fun a11 =>
 ld P zt4 a11 .s fun (x12 : Bs) =>
 mnil x10 fun a13 =>
 ld P zt4 (ad a13 1) .s fun (x14 : Bs) =>
 bsl P ztm zk9 [(x7, x12, x14, ())] fun x15 =>
 app P #[ztm, ztm] ztm (Sl.v l_3) (Sl.v x15) fun x16 =>
 c1 (x16, w64 (v17 + 1), ()) (d_0, v15, v16, ()))
 (zf19_2 R l_3)
def zf19_4 (R : Sl → World → Prop) (l_3 : Sl) (v17 : Int) (d_0 : Option Addr) (v15 : Sl) (v16 : Int) : World → Prop :=
 W.Loop (d_0, v15, v16, ()) (fun (c1 : (Sl × Int × Unit) → (Option Addr × Sl × Int × Unit) → World → Prop) (s : Sl × Int × Unit) => zf19_5 c1 R s.1 s.2.1 d_0 v15 v16) (l_3, v17, ())
def zf19_3 (R : Sl → World → Prop) (d_0 : Option Addr) (l_3 : Sl) : World → Prop :=
 mnil d_0 fun a2 =>
 ld P ztk a2 .m fun (x3 : Option Nat) =>
 mcall P n_zf1i [(.map x3)] .v fun (x4 : Value) =>
 mcall P n_zf1h [x4] .sl fun (x5 : Sl) =>
 zf19_4 R l_3 0 d_0 x5 (x5.len : Int)
def zf19_1 (R : Sl → World → Prop) (d_0 : Option Addr) (l_3 : Sl) : World → Prop :=
 zf19_3 R d_0 l_3
def zf19_0 (R : Sl → World → Prop) (d_0 : Option Addr) : World → Prop :=
 meq P .eql zte (.pointer d_0) (.pointer none) fun x1 =>
 mif x1
 (R ⟨none, 0, 0⟩)
 (zf19_1 R d_0 ⟨none, 0, 0⟩)
theorem zf19_2_ok (R : Sl → World → Prop) (x : Sl × Unit) (w : World) (h : zf19_2 R x.1 w) : WPC P 42 [] (Code.at zf19_B [.snd, .snd, .snd, .snd]) (zf19_q1 R) (mkE 42 zf19_l3 x) w :=
  pc_end h
theorem zf19_5_ok (c1 : (Sl × Int × Unit) → (Option Addr × Sl × Int × Unit) → World → Prop) (R : Sl → World → Prop) (x : Sl × Int × Unit) (y : Option Addr × Sl × Int × Unit) (w : World) (h : zf19_5 c1 R x.1 x.2.1 y.1 y.2.1 y.2.2.1 w) : WPC P 42 [] (Code.at zf19_B [.snd, .snd, .snd, .fst, .snd, .blk, .blk]) (zf19_q3 c1 R) (mkE2 42 zf19_l5 zf19_l6 x y) w :=
  pc_end h
theorem zf19_4_ok (R : Sl → World → Prop) (x : Sl × Int × Unit) (y : Option Addr × Sl × Int × Unit) (w : World) (h : zf19_4 R x.1 x.2.1 y.1 y.2.1 y.2.2.1 w) : WPC P 42 [] (Code.at zf19_B [.snd, .snd, .snd, .fst, .snd]) (zf19_q2 R) (mkE2 42 zf19_l5 zf19_l6 x y) w :=
  pc_loopE (l := zf19_l5) (l' := zf19_l6) (id := 0) (b := (Code.at zf19_B [.snd, .snd, .snd, .fst, .snd, .blk, .blk])) (fun c1 s => zf19_5_ok c1 R s y) h
theorem zf19_3_ok (R : Sl → World → Prop) (x : Option Addr × Sl × Unit) (w : World) (h : zf19_3 R x.1 x.2.1 w) : WPC P 42 [] (Code.at zf19_B [.snd, .snd, .snd, .fst]) (zf19_q2 R) (mkE 42 zf19_l4 x) w :=
  pc_cut2 (l := zf19_l5) (l' := zf19_l6) 1 (zf19_4_ok R) h
theorem zf19_1_ok (R : Sl → World → Prop) (x : Option Addr × Sl × Unit) (w : World) (h : zf19_1 R x.1 x.2.1 w) : WPC P 42 [] (Code.at zf19_B [.snd, .snd, .snd]) (zf19_q1 R) (mkE 42 zf19_l2 x) w :=
  pc_seq (l := zf19_l3) (a := (Code.at zf19_B [.snd, .snd, .snd, .fst])) (b := (Code.at zf19_B [.snd, .snd, .snd, .snd])) (pc_cut (l := zf19_l4) (c := (Code.at zf19_B [.snd, .snd, .snd, .fst])) 0 (zf19_3_ok R) h) (zf19_2_ok R)
theorem zf19_0_ok (R : Sl → World → Prop) (x : Option Addr × Unit) (w : World) (h : zf19_0 R x.1 w) : WPC P 42 [] (Code.at zf19_B []) (zf19_q1 R) (mkE 42 zf19_l1 x) w :=
  pc_cut (l := zf19_l2) 3 (zf19_1_ok R) h
theorem zf19_call (R : Sl → World → Prop) (d_0 : Option Addr) (w : World) (h : zf19_0 R d_0 w) : mcall P n_zf19 [(.pointer d_0)] .sl R w :=
  pc_top (l := zf19_l1) (c := zf19_B) Tryz.func48 (zf19_0_ok R) h
noncomputable abbrev zf1a_B : Code := (Tryz.f49.body).getD .skip
abbrev zf1a_q1 (R : Bool → World → Prop) := (topQ P [.tmp 3] .b R)
abbrev zf1a_l1 : Slots := [(0, zk9), (1, .ad)]
def zf1a_0 (R : Bool → World → Prop) (f_0 : zT9) (v1 : Addr) : World → Prop :=
 bx P ztn zk9 f_0 fun a1 =>
 ld P zt4 a1 .s fun (x2 : Bs) =>
 ld P zt4 v1 .s fun (x3 : Bs) =>
 mcat x3 [46, 110, 101, 119] fun s4 =>
 R (x2 == s4)
theorem zf1a_0_ok (R : Bool → World → Prop) (x : zT9 × Addr × Unit) (w : World) (h : zf1a_0 R x.1 x.2.1 w) : WPC P 9 [] (Code.at zf1a_B []) (zf1a_q1 R) (mkE 9 zf1a_l1 x) w :=
  pc_end h
theorem zf1a_call (R : Bool → World → Prop) (f_0 : zT9) (v1 : Addr) (w : World) (h : zf1a_0 R f_0 v1 w) : mcall P n_zf1a [(KV zk9 f_0), .pointer (some v1)] .b R w :=
  pc_top (l := zf1a_l1) (c := zf1a_B) Tryz.func49 (zf1a_0_ok R) h
noncomputable abbrev zf1c_B : Code := (Tryz.f51.body).getD .skip
abbrev zf1c_q1 (R : Int → World → Prop) := (topQ P [.tmp 6] I R)
abbrev zf1c_l1 : Slots := [(0, .p), (1, .s), (2, .s)]
abbrev zf1c_l2 : Slots := [(0, .p), (1, .s), (2, .s), (8, .p), (9, I)]
abbrev zf1c_l3 : Slots := [(0, .p), (1, .s), (2, .s), (8, .p), (9, I)]
abbrev zf1c_l4 : Slots := [(0, .p), (2, .s), (8, .p), (9, I)]
def zf1c_3 (R : Int → World → Prop) (d_0 : Option Addr) (s_2 : Bs) (f_8 : Option Addr) (need_9 : Int) : World → Prop :=
 mnil d_0 fun a22 =>
 ld P zt1 (ad a22 1) I fun (x23 : Int) =>
 mnil d_0 fun a24 =>
 sto P zt1 (ad a24 1) I (w64 (x23 - need_9)) <|
 mnil f_8 fun a25 =>
 ld P zt4 (ad a25 1) .s fun (x26 : Bs) =>
 mcat x26 s_2 fun s27 =>
 mnil f_8 fun a28 =>
 sto P zt4 (ad a28 1) .s s27 <|
 mcall P n_zf2r [(.pointer d_0)] .b fun (x29 : Bool) =>
 mif (!x29)
 (R 4)
 (R 0)
def zf1c_2 (R : Int → World → Prop) (d_0 : Option Addr) (name_1 : Bs) (s_2 : Bs) (f_8 : Option Addr) (need_9 : Int) : World → Prop :=
 meq P .eql ztq (.pointer f_8) (.pointer none) fun x18 =>
 mif x18
 (bx P ztr zka ([], [], ()) fun a19 =>
 mnil d_0 fun a20 =>
 ld P ztk a20 .m fun (x21 : Option Nat) =>
 mup P ztk x21 .s name_1 .p (some a19) <|
 zf1c_3 R d_0 s_2 (some a19) need_9)
 (zf1c_3 R d_0 s_2 f_8 need_9)
def zf1c_1 (R : Int → World → Prop) (d_0 : Option Addr) (name_1 : Bs) (s_2 : Bs) (f_8 : Option Addr) (need_9 : Int) : World → Prop :=
 mnil d_0 fun a12 =>
 ld P zt1 (ad a12 1) I fun (x13 : Int) =>
 mif (decide (need_9 > x13))
 (R 5)
 (meq P .eql ztq (.pointer f_8) (.pointer none) fun x14 =>
 mif x14
 (mnil d_0 fun a15 =>
 ld P ztk a15 .m fun (x16 : Option Nat) =>
 mrd P (Builtin.len_ #[ztk] zt1 #[.map x16]) I fun (x17 : Int) =>
 mif (decide (x17 ≥ 256))
 (R 5)
 (zf1c_2 R d_0 name_1 s_2 f_8 need_9))
 (zf1c_2 R d_0 name_1 s_2 f_8 need_9))
def zf1c_0 (R : Int → World → Prop) (d_0 : Option Addr) (name_1 : Bs) (s_2 : Bs) : World → Prop :=
 bsl P ztp .s [name_1] fun x1 =>
 mcall P n_zf2q [(.pointer d_0), (Sl.v x1)] I fun (x2 : Int) =>
 mif (x2 != 0)
 (R x2)
 (mnil d_0 fun a3 =>
 ld P ztk a3 .m fun (x4 : Option Nat) =>
 lku P ztk x4 .s name_1 .p fun (x5 : Option Addr) =>
 mcall P n_zf1j [(.int .i64 (s_2.length : Int))] I fun (x6 : Int) =>
 meq P .neq ztq (.pointer x5) (.pointer none) fun x7 =>
 mif x7
 (mcall P n_zf1k [(.pointer x5)] I fun (x8 : Int) =>
 mcall P n_zf1j [(.int .i64 (w64 (x8 + (s_2.length : Int))))] I fun (x9 : Int) =>
 mcall P n_zf1k [(.pointer x5)] I fun (x10 : Int) =>
 mcall P n_zf1j [(.int .i64 x10)] I fun (x11 : Int) =>
 zf1c_1 R d_0 name_1 s_2 x5 (w64 (x9 - x11)))
 (zf1c_1 R d_0 name_1 s_2 x5 x6))
theorem zf1c_3_ok (R : Int → World → Prop) (x : Option Addr × Bs × Option Addr × Int × Unit) (w : World) (h : zf1c_3 R x.1 x.2.1 x.2.2.1 x.2.2.2.1 w) : WPC P 85 [] (Code.at zf1c_B [.snd, .snd, .snd, .snd, .snd, .snd, .snd]) (zf1c_q1 R) (mkE 85 zf1c_l4 x) w :=
  pc_end h
theorem zf1c_2_ok (R : Int → World → Prop) (x : Option Addr × Bs × Bs × Option Addr × Int × Unit) (w : World) (h : zf1c_2 R x.1 x.2.1 x.2.2.1 x.2.2.2.1 x.2.2.2.2.1 w) : WPC P 85 [] (Code.at zf1c_B [.snd, .snd, .snd, .snd, .snd, .snd]) (zf1c_q1 R) (mkE 85 zf1c_l3 x) w :=
  pc_cut (l := zf1c_l4) 1 (zf1c_3_ok R) h
theorem zf1c_1_ok (R : Int → World → Prop) (x : Option Addr × Bs × Bs × Option Addr × Int × Unit) (w : World) (h : zf1c_1 R x.1 x.2.1 x.2.2.1 x.2.2.2.1 x.2.2.2.2.1 w) : WPC P 85 [] (Code.at zf1c_B [.snd, .snd, .snd, .snd, .snd]) (zf1c_q1 R) (mkE 85 zf1c_l2 x) w :=
  pc_cut (l := zf1c_l3) 1 (zf1c_2_ok R) h
theorem zf1c_0_ok (R : Int → World → Prop) (x : Option Addr × Bs × Bs × Unit) (w : World) (h : zf1c_0 R x.1 x.2.1 x.2.2.1 w) : WPC P 85 [] (Code.at zf1c_B []) (zf1c_q1 R) (mkE 85 zf1c_l1 x) w :=
  pc_cut (l := zf1c_l2) 5 (zf1c_1_ok R) h
theorem zf1c_call (R : Int → World → Prop) (d_0 : Option Addr) (name_1 : Bs) (s_2 : Bs) (w : World) (h : zf1c_0 R d_0 name_1 s_2 w) : mcall P n_zf1c [(.pointer d_0), (.string ⟨name_1.toArray⟩), (.string ⟨s_2.toArray⟩)] I R w :=
  pc_top (l := zf1c_l1) (c := zf1c_B) Tryz.func51 (zf1c_0_ok R) h
noncomputable abbrev zf1d_B : Code := (Tryz.f52.body).getD .skip
abbrev zf1d_q1 (R : Int → World → Prop) := (topQ P [.tmp 4] I R)
abbrev zf1d_l1 : Slots := [(0, .p), (1, .s)]
def zf1d_0 (R : Int → World → Prop) (d_0 : Option Addr) (name_1 : Bs) : World → Prop :=
 mcall P n_zf2p [(.pointer d_0), (.string ⟨name_1.toArray⟩), (.func (.func n_zf2s) #[] #[])] I fun (x1 : Int) =>
 R x1
theorem zf1d_0_ok (R : Int → World → Prop) (x : Option Addr × Bs × Unit) (w : World) (h : zf1d_0 R x.1 x.2.1 w) : WPC P 8 [] (Code.at zf1d_B []) (zf1d_q1 R) (mkE 8 zf1d_l1 x) w :=
  pc_end h
theorem zf1d_call (R : Int → World → Prop) (d_0 : Option Addr) (name_1 : Bs) (w : World) (h : zf1d_0 R d_0 name_1 w) : mcall P n_zf1d [(.pointer d_0), (.string ⟨name_1.toArray⟩)] I R w :=
  pc_top (l := zf1d_l1) (c := zf1d_B) Tryz.func52 (zf1d_0_ok R) h
noncomputable abbrev zf1e_B : Code := (Tryz.f53.body).getD .skip
abbrev zf1e_q1 (R : Int → World → Prop) := (topQ P [.tmp 6] I R)
abbrev zf1e_l1 : Slots := [(0, .p), (1, .s), (2, .s)]
def zf1e_0 (R : Int → World → Prop) (d_0 : Option Addr) (from_1 : Bs) (to_2 : Bs) : World → Prop :=
 bx P zte .p d_0 fun a1 =>
 bx P zt4 .s from_1 fun a2 =>
 bx P zt4 .s to_2 fun a3 =>
 ld P zte a1 .p fun (x4 : Option Addr) =>
 ld P zt4 a2 .s fun (x5 : Bs) =>
 ld P zt4 a3 .s fun (x6 : Bs) =>
 bsl P ztp .s [x5, x6] fun x7 =>
 mcall P n_zf2q [(.pointer x4), (Sl.v x7)] I fun (x8 : Int) =>
 mif (x8 != 0)
 (R x8)
 (ld P zte a1 .p fun (x9 : Option Addr) =>
 ld P zt4 a2 .s fun (x10 : Bs) =>
 mcall P n_zf2p [(.pointer x9), (.string ⟨x10.toArray⟩), (.func (.func n_zf2t) #[] #[.pointer (some a1), .pointer (some a3), .pointer (some a2)])] I fun (x11 : Int) =>
 R x11)
theorem zf1e_0_ok (R : Int → World → Prop) (x : Option Addr × Bs × Bs × Unit) (w : World) (h : zf1e_0 R x.1 x.2.1 x.2.2.1 w) : WPC P 20 [] (Code.at zf1e_B []) (zf1e_q1 R) (mkE 20 zf1e_l1 x) w :=
  pc_end h
theorem zf1e_call (R : Int → World → Prop) (d_0 : Option Addr) (from_1 : Bs) (to_2 : Bs) (w : World) (h : zf1e_0 R d_0 from_1 to_2 w) : mcall P n_zf1e [(.pointer d_0), (.string ⟨from_1.toArray⟩), (.string ⟨to_2.toArray⟩)] I R w :=
  pc_top (l := zf1e_l1) (c := zf1e_B) Tryz.func53 (zf1e_0_ok R) h
noncomputable abbrev zf1f_B : Code := (Tryz.f54.body).getD .skip
abbrev zf1f_q1 (R : (zT2 × Bool × Unit) → World → Prop) := (topQ P [.cell 2 ztc, .tmp 3] (.tup [zk2, .b]) R)
abbrev zf1f_l1 : Slots := [(0, zk2)]
def zf1f_0 (R : (zT2 × Bool × Unit) → World → Prop) (r_0 : zT2) : World → Prop :=
 bx P ztc zk2 r_0 fun a1 =>
 alo P ztc fun a2 =>
 ld P zt4 (ad a1 2) .s fun (x3 : Bs) =>
 mcall P n_zf27 [(.string ⟨x3.toArray⟩)] (.tup [I, .s, I]) fun (x4 : Int × Bs × Int × Unit) =>
 mif (x4.2.2.1 != 0)
 (sto P ztc a2 zk2 (0, 0, [], ()) <|
 ld P ztc a2 zk2 fun (x5 : zT2) =>
 R (x5, false, ()))
 (mif (decide (x4.1 < 0))
 (sto P ztc a2 zk2 (0, 0, [], ()) <|
 ld P ztc a2 zk2 fun (x6 : zT2) =>
 R (x6, false, ()))
 (mif (decide (x4.1 > 2))
 (sto P ztc a2 zk2 (0, 0, [], ()) <|
 ld P ztc a2 zk2 fun (x7 : zT2) =>
 R (x7, false, ()))
 (mif (x4.1 == 0)
 (sto P ztc a2 zk2 (0, 0, [99, 111, 117, 110, 116, 115], ()) <|
 ld P ztc a2 zk2 fun (x8 : zT2) =>
 R (x8, true, ()))
 (ld P zt1 a1 I fun (x9 : Int) =>
 ld P zt1 (ad a1 1) I fun (x10 : Int) =>
 sto P ztc a2 zk2 (x9, x10, [], ()) <|
 ld P ztc a2 zk2 fun (x11 : zT2) =>
 R (x11, true, ())))))
theorem zf1f_0_ok (R : (zT2 × Bool × Unit) → World → Prop) (x : zT2 × Unit) (w : World) (h : zf1f_0 R x.1 w) : WPC P 35 [] (Code.at zf1f_B []) (zf1f_q1 R) (mkE 35 zf1f_l1 x) w :=
  pc_end h
theorem zf1f_call (R : (zT2 × Bool × Unit) → World → Prop) (r_0 : zT2) (w : World) (h : zf1f_0 R r_0 w) : mcall P n_zf1f [(KV zk2 r_0)] (.tup [zk2, .b]) R w :=
  pc_top (l := zf1f_l1) (c := zf1f_B) Tryz.func54 (zf1f_0_ok R) h
noncomputable abbrev zf1g_B : Code := (Tryz.f55.body).getD .skip
abbrev zf1g_q1 (R : Bool → World → Prop) := (topQ P [.tmp 2] .b R)
abbrev zf1g_l1 : Slots := [(0, zk2)]
def zf1g_0 (R : Bool → World → Prop) (r_0 : zT2) : World → Prop :=
 bx P ztc zk2 r_0 fun a1 =>
 mdraw <|
 ld P zt4 (ad a1 2) .s fun (x2 : Bs) =>
 mcall P n_zf2g [(.int .i64 2)] .s fun (x3 : Bs) =>
 mst P (Instr.loadAt zt4 (.pointer (some (ad a1 2)))) (.string ⟨x2.toArray⟩) <|
 R (x2 == x3)
theorem zf1g_0_ok (R : Bool → World → Prop) (x : zT2 × Unit) (w : World) (h : zf1g_0 R x.1 w) : WPC P 7 [] (Code.at zf1g_B []) (zf1g_q1 R) (mkE 7 zf1g_l1 x) w :=
  pc_end h
theorem zf1g_call (R : Bool → World → Prop) (r_0 : zT2) (w : World) (h : zf1g_0 R r_0 w) : mcall P n_zf1g [(KV zk2 r_0)] .b R w :=
  pc_top (l := zf1g_l1) (c := zf1g_B) Tryz.func55 (zf1g_0_ok R) h
end Go.Proofs.YtpjhflboedicpaaGreatDoor
