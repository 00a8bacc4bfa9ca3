/- Short texts of functions of the program, each with the proof that a call comes to it. No condition. -/
import Derived.Test.YtpjhflboedicpaaGreatDoorNames
set_option linter.unusedVariables false
set_option linter.unusedSimpArgs false
namespace Go.Proofs.YtpjhflboedicpaaGreatDoor
open Go Go.W
set_option maxRecDepth 100000
noncomputable abbrev zf3f_B : Code := (Tryz.f127.body).getD .skip
abbrev zf3f_q1 (R : (Bs × Int × Unit) → World → Prop) := (topQ P [.tmp 2, .tmp 3] (.tup [.s, I]) R)
abbrev zf3f_l1 : Slots := [(0, zk1)]
abbrev zf3f_l2 : Slots := [(1, .ad), (5, .ad)]
abbrev zf3f_l3 : Slots := [(5, .ad)]
def zf3f_2 (R : (Bs × Int × Unit) → World → Prop) (s_5 : Addr) : World → Prop :=
 mcall P n_zf2m [(.pointer (some s_5))] .s fun (x13 : Bs) =>
 R (x13, 0, ())
abbrev zf3f_q2 (R : (Bs × Int × Unit) → World → Prop) := (thenQ (fun env => getE env zf3f_l3 fun (x : Addr × Unit) => zf3f_2 R x.1) (zf3f_q1 R))
abbrev zf3f_l4 : Slots := [(1, .ad), (5, .ad)]
abbrev zf3f_l5 : Slots := [(30, I)]
abbrev zf3f_l6 : Slots := [(5, .ad), (28, .sl), (29, I)]
abbrev zf3f_q3 (c1 : (Int × Unit) → (Addr × Sl × Int × Unit) → World → Prop) (R : (Bs × Int × Unit) → World → Prop) := (thenQ (fun env => getE env zf3f_l5 fun (s : Int × Unit) => getE env zf3f_l6 (c1 s)) (blockQ 0 ((zf3f_q2 R) .normal) (zf3f_q2 R)))
def zf3f_5 (c1 : (Int × Unit) → (Addr × Sl × Int × Unit) → World → Prop) (R : (Bs × Int × Unit) → World → Prop) (v30 : Int) (s_5 : Addr) (v28 : Sl) (v29 : Int) : World → Prop :=
 mif (decide (v30 < v29))
 (ixa P zt6 (Sl.v v28) v30 fun x15 =>
 ld P ztc x15 zk2 fun (x16 : zT2) =>
 alo P ztc fun a17 =>
 sto P ztc a17 zk2 x16 <|
 ld P ztc a17 zk2 fun (x18 : zT2) =>
 mcall P n_zf2k [(KV zk2 x18)] .s fun (x19 : Bs) =>
 mcall P n_zf2j [(.pointer (some s_5)), (.string ⟨x19.toArray⟩)] (.tup [I, .v]) fun (x20 : Int × Value × Unit) =>
 c1 (w64 (v30 + 1), ()) (s_5, v28, v29, ()))
 (zf3f_2 R s_5)
def zf3f_4 (R : (Bs × Int × Unit) → World → Prop) (v30 : Int) (s_5 : Addr) (v28 : Sl) (v29 : Int) : World → Prop :=
 W.Loop (s_5, v28, v29, ()) (fun (c1 : (Int × Unit) → (Addr × Sl × Int × Unit) → World → Prop) (s : Int × Unit) => zf3f_5 c1 R s.1 s_5 v28 v29) (v30, ())
def zf3f_3 (R : (Bs × Int × Unit) → World → Prop) (b_1 : Addr) (s_5 : Addr) : World → Prop :=
 ld P zt6 (ad b_1 4) .sl fun (x14 : Sl) =>
 zf3f_4 R 0 s_5 x14 (x14.len : Int)
def zf3f_1 (R : (Bs × Int × Unit) → World → Prop) (b_1 : Addr) (s_5 : Addr) : World → Prop :=
 zf3f_3 R b_1 s_5
def zf3f_0 (R : (Bs × Int × Unit) → World → Prop) (b_0 : zT1) : World → Prop :=
 bx P ztj zk1 b_0 fun a1 =>
 ld P ztj a1 zk1 fun (x2 : zT1) =>
 mcall P n_zf3a [(KV zk1 x2)] I fun (x3 : Int) =>
 mif (x3 != 0)
 (R ([], x3, ()))
 (alo P zt11 fun a4 =>
 ld P zt1 a1 I fun (x5 : Int) =>
 ld P zt1 (ad a1 1) I fun (x6 : Int) =>
 ld P zt1 (ad a1 2) I fun (x7 : Int) =>
 ld P zt1 (ad a1 3) I fun (x8 : Int) =>
 ld P zt6 (ad a1 4) .sl fun (x9 : Sl) =>
 bsl P zt7 I [x5, x6, x7, x8, (x9.len : Int)] fun x10 =>
 mcall P n_zf2f [(Sl.v x10)] .s fun (x11 : Bs) =>
 mcall P n_zf2j [(.pointer (some a4)), (.string ⟨x11.toArray⟩)] (.tup [I, .v]) fun (x12 : Int × Value × Unit) =>
 zf3f_1 R a1 a4)
theorem zf3f_2_ok (R : (Bs × Int × Unit) → World → Prop) (x : Addr × Unit) (w : World) (h : zf3f_2 R x.1 w) : WPC P 39 [] (Code.at zf3f_B [.snd, .snd, .snd, .snd, .snd]) (zf3f_q1 R) (mkE 39 zf3f_l3 x) w :=
  pc_end h
theorem zf3f_5_ok (c1 : (Int × Unit) → (Addr × Sl × Int × Unit) → World → Prop) (R : (Bs × Int × Unit) → World → Prop) (x : Int × Unit) (y : Addr × Sl × Int × Unit) (w : World) (h : zf3f_5 c1 R x.1 y.1 y.2.1 y.2.2.1 w) : WPC P 39 [] (Code.at zf3f_B [.snd, .snd, .snd, .snd, .fst, .snd, .blk, .blk]) (zf3f_q3 c1 R) (mkE2 39 zf3f_l5 zf3f_l6 x y) w :=
  pc_end h
theorem zf3f_4_ok (R : (Bs × Int × Unit) → World → Prop) (x : Int × Unit) (y : Addr × Sl × Int × Unit) (w : World) (h : zf3f_4 R x.1 y.1 y.2.1 y.2.2.1 w) : WPC P 39 [] (Code.at zf3f_B [.snd, .snd, .snd, .snd, .fst, .snd]) (zf3f_q2 R) (mkE2 39 zf3f_l5 zf3f_l6 x y) w :=
  pc_loopE (l := zf3f_l5) (l' := zf3f_l6) (id := 0) (b := (Code.at zf3f_B [.snd, .snd, .snd, .snd, .fst, .snd, .blk, .blk])) (fun c1 s => zf3f_5_ok c1 R s y) h
theorem zf3f_3_ok (R : (Bs × Int × Unit) → World → Prop) (x : Addr × Addr × Unit) (w : World) (h : zf3f_3 R x.1 x.2.1 w) : WPC P 39 [] (Code.at zf3f_B [.snd, .snd, .snd, .snd, .fst]) (zf3f_q2 R) (mkE 39 zf3f_l4 x) w :=
  pc_cut2 (l := zf3f_l5) (l' := zf3f_l6) 1 (zf3f_4_ok R) h
theorem zf3f_1_ok (R : (Bs × Int × Unit) → World → Prop) (x : Addr × Addr × Unit) (w : World) (h : zf3f_1 R x.1 x.2.1 w) : WPC P 39 [] (Code.at zf3f_B [.snd, .snd, .snd, .snd]) (zf3f_q1 R) (mkE 39 zf3f_l2 x) w :=
  pc_seq (l := zf3f_l3) (a := (Code.at zf3f_B [.snd, .snd, .snd, .snd, .fst])) (b := (Code.at zf3f_B [.snd, .snd, .snd, .snd, .snd])) (pc_cut (l := zf3f_l4) (c := (Code.at zf3f_B [.snd, .snd, .snd, .snd, .fst])) 0 (zf3f_3_ok R) h) (zf3f_2_ok R)
theorem zf3f_0_ok (R : (Bs × Int × Unit) → World → Prop) (x : zT1 × Unit) (w : World) (h : zf3f_0 R x.1 w) : WPC P 39 [] (Code.at zf3f_B []) (zf3f_q1 R) (mkE 39 zf3f_l1 x) w :=
  pc_cut (l := zf3f_l2) 4 (zf3f_1_ok R) h
theorem zf3f_call (R : (Bs × Int × Unit) → World → Prop) (b_0 : zT1) (w : World) (h : zf3f_0 R b_0 w) : mcall P n_zf3f [(KV zk1 b_0)] (.tup [.s, I]) R w :=
  pc_top (l := zf3f_l1) (c := zf3f_B) Tryz.func127 (zf3f_0_ok R) h
noncomputable abbrev zf3g_B : Code := (Tryz.f128.body).getD .skip
abbrev zf3g_q1 (R : (Int × Int × Unit) → World → Prop) := (topQ P [.tmp 4, .tmp 5] (.tup [I, I]) R)
abbrev zf3g_l1 : Slots := [(0, .p), (1, .sl)]
abbrev zf3g_l2 : Slots := [(0, .p), (1, .sl), (6, .sl), (7, .sl), (8, I)]
abbrev zf3g_l3 : Slots := [(0, .p), (6, .sl), (7, .sl), (8, I)]
abbrev zf3g_l4 : Slots := [(0, .p), (6, .sl), (7, .sl), (8, I), (14, .p)]
abbrev zf3g_l5 : Slots := [(0, .p), (6, .sl), (7, .sl), (8, I), (14, .p)]
abbrev zf3g_l6 : Slots := [(0, .p), (6, .sl), (8, I)]
def zf3g_5 (R : (Int × Int × Unit) → World → Prop) (l_0 : Option Addr) (entries_6 : Sl) (next_8 : Int) : World → Prop :=
 mnil l_0 fun a41 =>
 sto P zt1 (ad a41 4) I next_8 <|
 ixa P ztx (Sl.v entries_6) 0 fun x42 =>
 ld P zt1 x42 I fun (x43 : Int) =>
 R (x43, 0, ())
abbrev zf3g_q2 (R : (Int × Int × Unit) → World → Prop) := (thenQ (fun env => getE env zf3g_l6 fun (x : Option Addr × Sl × Int × Unit) => zf3g_5 R x.1 x.2.1 x.2.2.1) (zf3g_q1 R))
abbrev zf3g_l7 : Slots := [(0, .p), (6, .sl), (7, .sl), (8, I), (14, .p)]
abbrev zf3g_l8 : Slots := [(152, I)]
abbrev zf3g_l9 : Slots := [(0, .p), (6, .sl), (7, .sl), (8, I), (14, .p), (150, .sl), (151, I)]
abbrev zf3g_q3 (c1 : (Int × Unit) → (Option Addr × Sl × Sl × Int × Option Addr × Sl × Int × Unit) → World → Prop) (R : (Int × Int × Unit) → World → Prop) := (thenQ (fun env => getE env zf3g_l8 fun (s : Int × Unit) => getE env zf3g_l9 (c1 s)) (blockQ 3 ((zf3g_q2 R) .normal) (zf3g_q2 R)))
def zf3g_8 (c1 : (Int × Unit) → (Option Addr × Sl × Sl × Int × Option Addr × Sl × Int × Unit) → World → Prop) (R : (Int × Int × Unit) → World → Prop) (v152 : Int) (l_0 : Option Addr) (entries_6 : Sl) (texts_7 : Sl) (next_8 : Int) (x_14 : Option Addr) (v150 : Sl) (v151 : Int) : World → Prop :=
 mif (decide (v152 < v151))
 (ixa P ztx (Sl.v v150) v152 fun x44 =>
 ld P zty x44 zk2 fun (x45 : zT2) =>
 alo P zty fun a46 =>
 sto P zty a46 zk2 x45 <|
 mdraw <|
 ld P zty a46 zk2 fun (x47 : zT2) =>
 ixa P ztp (Sl.v texts_7) v152 fun x48 =>
 ld P zt4 x48 .s fun (x49 : Bs) =>
 mcall P n_zf49 [(.pointer x_14), (KV zk2 x47), (.int .i64 (x49.length : Int))] (.tup []) fun (x50 : Unit) =>
 c1 (w64 (v152 + 1), ()) (l_0, entries_6, texts_7, next_8, x_14, v150, v151, ()))
 (zf3g_5 R l_0 entries_6 next_8)
def zf3g_7 (R : (Int × Int × Unit) → World → Prop) (v152 : Int) (l_0 : Option Addr) (entries_6 : Sl) (texts_7 : Sl) (next_8 : Int) (x_14 : Option Addr) (v150 : Sl) (v151 : Int) : World → Prop :=
 W.Loop (l_0, entries_6, texts_7, next_8, x_14, v150, v151, ()) (fun (c1 : (Int × Unit) → (Option Addr × Sl × Sl × Int × Option Addr × Sl × Int × Unit) → World → Prop) (s : Int × Unit) => zf3g_8 c1 R s.1 l_0 entries_6 texts_7 next_8 x_14 v150 v151) (v152, ())
def zf3g_6 (R : (Int × Int × Unit) → World → Prop) (l_0 : Option Addr) (entries_6 : Sl) (texts_7 : Sl) (next_8 : Int) (x_14 : Option Addr) : World → Prop :=
 zf3g_7 R 0 l_0 entries_6 texts_7 next_8 x_14 entries_6 (entries_6.len : Int)
def zf3g_4 (R : (Int × Int × Unit) → World → Prop) (l_0 : Option Addr) (entries_6 : Sl) (texts_7 : Sl) (next_8 : Int) (x_14 : Option Addr) : World → Prop :=
 zf3g_6 R l_0 entries_6 texts_7 next_8 x_14
def zf3g_3 (R : (Int × Int × Unit) → World → Prop) (l_0 : Option Addr) (entries_6 : Sl) (texts_7 : Sl) (next_8 : Int) (x_14 : Option Addr) : World → Prop :=
 mdraw <|
 mnil l_0 fun a19 =>
 ld P zte a19 .p fun (x20 : Option Addr) =>
 mnil x_14 fun a21 =>
 ld P zt1 a21 I fun (x22 : Int) =>
 mcall P n_zf37 [(.pointer l_0), (.int .i64 x22)] .s fun (x23 : Bs) =>
 mst P (Instr.loadAt zte (.pointer (some a19))) (.pointer x20) <|
 mcall P n_zf4j [(Sl.v texts_7), (.string ⟨[].toArray⟩)] .s fun (x24 : Bs) =>
 mst P (Instr.loadAt zte (.pointer (some a19))) (.pointer x20) <|
 mcall P n_zf1c [(.pointer x20), (.string ⟨x23.toArray⟩), (.string ⟨x24.toArray⟩)] I fun (x25 : Int) =>
 mif (x25 == 5)
 (R (0, x25, ()))
 (mnil l_0 fun a26 =>
 sto P ztb (ad a26 6) I x25 <|
 mif (x25 != 0)
 (R (0, x25, ()))
 (mcall P n_zf4i [(.pointer l_0)] .p fun (x27 : Option Addr) =>
 meq P .eql zt1i (.pointer x27) (.pointer none) fun x28 =>
 mif x28
 (mdraw <|
 mnil l_0 fun a29 =>
 ld P zt12 (ad a29 2) .sl fun (x30 : Sl) =>
 mnil x_14 fun a31 =>
 ld P zt15 a31 zkg fun (x32 : zTg) =>
 bsl P zt12 zkg [x32] fun x33 =>
 mst P (Instr.loadAt zt12 (.pointer (some (ad a29 2)))) (.slice x30.a x30.len x30.cap) <|
 app P #[zt12, zt12] zt12 (Sl.v x30) (Sl.v x33) fun x34 =>
 mnil l_0 fun a35 =>
 sto P zt12 (ad a35 2) .sl x34 <|
 mdraw <|
 mnil l_0 fun a36 =>
 ld P zt12 (ad a36 2) .sl fun (x37 : Sl) =>
 mnil l_0 fun a38 =>
 ld P zt12 (ad a38 2) .sl fun (x39 : Sl) =>
 ixa P zt12 (Sl.v x37) (w64 ((x39.len : Int) - 1)) fun x40 =>
 zf3g_4 R l_0 entries_6 texts_7 next_8 (some x40))
 (zf3g_4 R l_0 entries_6 texts_7 next_8 x_14)))
def zf3g_2 (R : (Int × Int × Unit) → World → Prop) (l_0 : Option Addr) (entries_6 : Sl) (texts_7 : Sl) (next_8 : Int) : World → Prop :=
 mcall P n_zf4i [(.pointer l_0)] .p fun (x8 : Option Addr) =>
 meq P .eql zt1i (.pointer x8) (.pointer none) fun x9 =>
 mif x9
 (mnil l_0 fun a10 =>
 ld P zt12 (ad a10 2) .sl fun (x11 : Sl) =>
 mif (decide ((x11.len : Int) > 0))
 (mcall P n_zf3h [(.pointer l_0)] I fun (x12 : Int) =>
 mif (x12 != 0)
 (R (0, x12, ()))
 (mnil l_0 fun a13 =>
 ld P zt1 (ad a13 4) I fun (x14 : Int) =>
 bx P zt15 zkg ((x14, 0, 0, ()), ⟨none, 0, 0⟩, ()) fun a15 =>
 zf3g_3 R l_0 entries_6 texts_7 next_8 (some a15)))
 (mnil l_0 fun a16 =>
 ld P zt1 (ad a16 4) I fun (x17 : Int) =>
 bx P zt15 zkg ((x17, 0, 0, ()), ⟨none, 0, 0⟩, ()) fun a18 =>
 zf3g_3 R l_0 entries_6 texts_7 next_8 (some a18)))
 (zf3g_3 R l_0 entries_6 texts_7 next_8 x8)
abbrev zf3g_q4 (R : (Int × Int × Unit) → World → Prop) := (thenQ (fun env => getE env zf3g_l3 fun (x : Option Addr × Sl × Sl × Int × Unit) => zf3g_2 R x.1 x.2.1 x.2.2.1 x.2.2.2.1) (zf3g_q1 R))
abbrev zf3g_l10 : Slots := [(0, .p), (1, .sl), (6, .sl), (7, .sl), (8, I)]
abbrev zf3g_l11 : Slots := [(6, .sl), (7, .sl), (8, I), (43, I)]
abbrev zf3g_l12 : Slots := [(0, .p), (41, .sl), (42, I)]
abbrev zf3g_q5 (c1 : (Sl × Sl × Int × Int × Unit) → (Option Addr × Sl × Int × Unit) → World → Prop) (R : (Int × Int × Unit) → World → Prop) := (thenQ (fun env => getE env zf3g_l11 fun (s : Sl × Sl × Int × Int × Unit) => getE env zf3g_l12 (c1 s)) (blockQ 1 ((zf3g_q4 R) .normal) (zf3g_q4 R)))
def zf3g_11 (c1 : (Sl × Sl × Int × Int × Unit) → (Option Addr × Sl × Int × Unit) → World → Prop) (R : (Int × Int × Unit) → World → Prop) (entries_6 : Sl) (texts_7 : Sl) (next_8 : Int) (v43 : Int) (l_0 : Option Addr) (v41 : Sl) (v42 : Int) : World → Prop :=
 mif (decide (v43 < v42))
 (ixa P zt1h (Sl.v v41) v43 fun x51 =>
 ld P zt19 x51 zke fun (x52 : zTe) =>
 alo P zt19 fun a53 =>
 sto P zt19 a53 zke x52 <|
 ld P zt1 a53 I fun (x54 : Int) =>
 ld P zt4 (ad a53 1) .s fun (x55 : Bs) =>
 alo P zty fun a56 =>
 sto P zty a56 zk2 (next_8, x54, x55, ()) <|
 ld P zty a56 zk2 fun (x57 : zT2) =>
 mcall P n_zf4h [(KV zk2 x57)] (.tup [.s, I]) fun (x58 : Bs × Int × Unit) =>
 mif (x58.2.1 != 0)
 (R (0, 1, ()))
 (ld P zt1 a53 I fun (x59 : Int) =>
 mif (decide (x59 > (w64 (1099511627776 - next_8))))
 (R (0, 6, ()))
 (ld P zty a56 zk2 fun (x60 : zT2) =>
 bsl P ztx zk2 [x60] fun x61 =>
 app P #[ztx, ztx] ztx (Sl.v entries_6) (Sl.v x61) fun x62 =>
 bsl P ztp .s [x58.1] fun x63 =>
 app P #[ztp, ztp] ztp (Sl.v texts_7) (Sl.v x63) fun x64 =>
 ld P zt1 a53 I fun (x65 : Int) =>
 c1 (x62, x64, w64 (next_8 + x65), w64 (v43 + 1), ()) (l_0, v41, v42, ()))))
 (zf3g_2 R l_0 entries_6 texts_7 next_8)
def zf3g_10 (R : (Int × Int × Unit) → World → Prop) (entries_6 : Sl) (texts_7 : Sl) (next_8 : Int) (v43 : Int) (l_0 : Option Addr) (v41 : Sl) (v42 : Int) : World → Prop :=
 W.Loop (l_0, v41, v42, ()) (fun (c1 : (Sl × Sl × Int × Int × Unit) → (Option Addr × Sl × Int × Unit) → World → Prop) (s : Sl × Sl × Int × Int × Unit) => zf3g_11 c1 R s.1 s.2.1 s.2.2.1 s.2.2.2.1 l_0 v41 v42) (entries_6, texts_7, next_8, v43, ())
def zf3g_9 (R : (Int × Int × Unit) → World → Prop) (l_0 : Option Addr) (items_1 : Sl) (entries_6 : Sl) (texts_7 : Sl) (next_8 : Int) : World → Prop :=
 zf3g_10 R entries_6 texts_7 next_8 0 l_0 items_1 (items_1.len : Int)
def zf3g_1 (R : (Int × Int × Unit) → World → Prop) (l_0 : Option Addr) (items_1 : Sl) (entries_6 : Sl) (texts_7 : Sl) (next_8 : Int) : World → Prop :=
 zf3g_9 R l_0 items_1 entries_6 texts_7 next_8
def zf3g_0 (R : (Int × Int × Unit) → World → Prop) (l_0 : Option Addr) (items_1 : Sl) : World → Prop :=
 meq P .eql zts (.pointer l_0) (.pointer none) fun x1 =>
 mif x1
 (R (0, 1, ()))
 (mif ((items_1.len : Int) == 0)
 (R (0, 1, ()))
 (mnil l_0 fun a2 =>
 ld P ztb (ad a2 6) I fun (x3 : Int) =>
 mif (x3 != 0)
 (mdraw <|
 mnil l_0 fun a4 =>
 ld P ztb (ad a4 6) I fun (x5 : Int) =>
 R (0, x5, ()))
 (mnil l_0 fun a6 =>
 ld P zt1 (ad a6 4) I fun (x7 : Int) =>
 zf3g_1 R l_0 items_1 ⟨none, 0, 0⟩ ⟨none, 0, 0⟩ x7)))
theorem zf3g_5_ok (R : (Int × Int × Unit) → World → Prop) (x : Option Addr × Sl × Int × Unit) (w : World) (h : zf3g_5 R x.1 x.2.1 x.2.2.1 w) : WPC P 174 [] (Code.at zf3g_B [.snd, .snd, .snd, .snd, .snd, .snd, .snd, .snd, .snd, .snd, .snd, .snd, .snd]) (zf3g_q1 R) (mkE 174 zf3g_l6 x) w :=
  pc_end h
theorem zf3g_8_ok (c1 : (Int × Unit) → (Option Addr × Sl × Sl × Int × Option Addr × Sl × Int × Unit) → World → Prop) (R : (Int × Int × Unit) → World → Prop) (x : Int × Unit) (y : Option Addr × Sl × Sl × Int × Option Addr × Sl × Int × Unit) (w : World) (h : zf3g_8 c1 R x.1 y.1 y.2.1 y.2.2.1 y.2.2.2.1 y.2.2.2.2.1 y.2.2.2.2.2.1 y.2.2.2.2.2.2.1 w) : WPC P 174 [] (Code.at zf3g_B [.snd, .snd, .snd, .snd, .snd, .snd, .snd, .snd, .snd, .snd, .snd, .snd, .fst, .snd, .blk, .blk]) (zf3g_q3 c1 R) (mkE2 174 zf3g_l8 zf3g_l9 x y) w :=
  pc_end h
theorem zf3g_7_ok (R : (Int × Int × Unit) → World → Prop) (x : Int × Unit) (y : Option Addr × Sl × Sl × Int × Option Addr × Sl × Int × Unit) (w : World) (h : zf3g_7 R x.1 y.1 y.2.1 y.2.2.1 y.2.2.2.1 y.2.2.2.2.1 y.2.2.2.2.2.1 y.2.2.2.2.2.2.1 w) : WPC P 174 [] (Code.at zf3g_B [.snd, .snd, .snd, .snd, .snd, .snd, .snd, .snd, .snd, .snd, .snd, .snd, .fst, .snd]) (zf3g_q2 R) (mkE2 174 zf3g_l8 zf3g_l9 x y) w :=
  pc_loopE (l := zf3g_l8) (l' := zf3g_l9) (id := 3) (b := (Code.at zf3g_B [.snd, .snd, .snd, .snd, .snd, .snd, .snd, .snd, .snd, .snd, .snd, .snd, .fst, .snd, .blk, .blk])) (fun c1 s => zf3g_8_ok c1 R s y) h
theorem zf3g_6_ok (R : (Int × Int × Unit) → World → Prop) (x : Option Addr × Sl × Sl × Int × Option Addr × Unit) (w : World) (h : zf3g_6 R x.1 x.2.1 x.2.2.1 x.2.2.2.1 x.2.2.2.2.1 w) : WPC P 174 [] (Code.at zf3g_B [.snd, .snd, .snd, .snd, .snd, .snd, .snd, .snd, .snd, .snd, .snd, .snd, .fst]) (zf3g_q2 R) (mkE 174 zf3g_l7 x) w :=
  pc_cut2 (l := zf3g_l8) (l' := zf3g_l9) 1 (zf3g_7_ok R) h
theorem zf3g_4_ok (R : (Int × Int × Unit) → World → Prop) (x : Option Addr × Sl × Sl × Int × Option Addr × Unit) (w : World) (h : zf3g_4 R x.1 x.2.1 x.2.2.1 x.2.2.2.1 x.2.2.2.2.1 w) : WPC P 174 [] (Code.at zf3g_B [.snd, .snd, .snd, .snd, .snd, .snd, .snd, .snd, .snd, .snd, .snd, .snd]) (zf3g_q1 R) (mkE 174 zf3g_l5 x) w :=
  pc_seq (l := zf3g_l6) (a := (Code.at zf3g_B [.snd, .snd, .snd, .snd, .snd, .snd, .snd, .snd, .snd, .snd, .snd, .snd, .fst])) (b := (Code.at zf3g_B [.snd, .snd, .snd, .snd, .snd, .snd, .snd, .snd, .snd, .snd, .snd, .snd, .snd])) (pc_cut (l := zf3g_l7) (c := (Code.at zf3g_B [.snd, .snd, .snd, .snd, .snd, .snd, .snd, .snd, .snd, .snd, .snd, .snd, .fst])) 0 (zf3g_6_ok R) h) (zf3g_5_ok R)
theorem zf3g_3_ok (R : (Int × Int × Unit) → World → Prop) (x : Option Addr × Sl × Sl × Int × Option Addr × Unit) (w : World) (h : zf3g_3 R x.1 x.2.1 x.2.2.1 x.2.2.2.1 x.2.2.2.2.1 w) : WPC P 174 [] (Code.at zf3g_B [.snd, .snd, .snd, .snd, .snd, .snd, .snd, .snd]) (zf3g_q1 R) (mkE 174 zf3g_l4 x) w :=
  pc_cut (l := zf3g_l5) 4 (zf3g_4_ok R) h
theorem zf3g_2_ok (R : (Int × Int × Unit) → World → Prop) (x : Option Addr × Sl × Sl × Int × Unit) (w : World) (h : zf3g_2 R x.1 x.2.1 x.2.2.1 x.2.2.2.1 w) : WPC P 174 [] (Code.at zf3g_B [.snd, .snd, .snd, .snd, .snd, .snd]) (zf3g_q1 R) (mkE 174 zf3g_l3 x) w :=
  pc_cut (l := zf3g_l4) 2 (zf3g_3_ok R) h
theorem zf3g_11_ok (c1 : (Sl × Sl × Int × Int × Unit) → (Option Addr × Sl × Int × Unit) → World → Prop) (R : (Int × Int × Unit) → World → Prop) (x : Sl × Sl × Int × Int × Unit) (y : Option Addr × Sl × Int × Unit) (w : World) (h : zf3g_11 c1 R x.1 x.2.1 x.2.2.1 x.2.2.2.1 y.1 y.2.1 y.2.2.1 w) : WPC P 174 [] (Code.at zf3g_B [.snd, .snd, .snd, .snd, .snd, .fst, .snd, .blk, .blk]) (zf3g_q5 c1 R) (mkE2 174 zf3g_l11 zf3g_l12 x y) w :=
  pc_end h
theorem zf3g_10_ok (R : (Int × Int × Unit) → World → Prop) (x : Sl × Sl × Int × Int × Unit) (y : Option Addr × Sl × Int × Unit) (w : World) (h : zf3g_10 R x.1 x.2.1 x.2.2.1 x.2.2.2.1 y.1 y.2.1 y.2.2.1 w) : WPC P 174 [] (Code.at zf3g_B [.snd, .snd, .snd, .snd, .snd, .fst, .snd]) (zf3g_q4 R) (mkE2 174 zf3g_l11 zf3g_l12 x y) w :=
  pc_loopE (l := zf3g_l11) (l' := zf3g_l12) (id := 1) (b := (Code.at zf3g_B [.snd, .snd, .snd, .snd, .snd, .fst, .snd, .blk, .blk])) (fun c1 s => zf3g_11_ok c1 R s y) h
theorem zf3g_9_ok (R : (Int × Int × Unit) → World → Prop) (x : Option Addr × Sl × Sl × Sl × Int × Unit) (w : World) (h : zf3g_9 R x.1 x.2.1 x.2.2.1 x.2.2.2.1 x.2.2.2.2.1 w) : WPC P 174 [] (Code.at zf3g_B [.snd, .snd, .snd, .snd, .snd, .fst]) (zf3g_q4 R) (mkE 174 zf3g_l10 x) w :=
  pc_cut2 (l := zf3g_l11) (l' := zf3g_l12) 1 (zf3g_10_ok R) h
theorem zf3g_1_ok (R : (Int × Int × Unit) → World → Prop) (x : Option Addr × Sl × Sl × Sl × Int × Unit) (w : World) (h : zf3g_1 R x.1 x.2.1 x.2.2.1 x.2.2.2.1 x.2.2.2.2.1 w) : WPC P 174 [] (Code.at zf3g_B [.snd, .snd, .snd, .snd, .snd]) (zf3g_q1 R) (mkE 174 zf3g_l2 x) w :=
  pc_seq (l := zf3g_l3) (a := (Code.at zf3g_B [.snd, .snd, .snd, .snd, .snd, .fst])) (b := (Code.at zf3g_B [.snd, .snd, .snd, .snd, .snd, .snd])) (pc_cut (l := zf3g_l10) (c := (Code.at zf3g_B [.snd, .snd, .snd, .snd, .snd, .fst])) 0 (zf3g_9_ok R) h) (zf3g_2_ok R)
theorem zf3g_0_ok (R : (Int × Int × Unit) → World → Prop) (x : Option Addr × Sl × Unit) (w : World) (h : zf3g_0 R x.1 x.2.1 w) : WPC P 174 [] (Code.at zf3g_B []) (zf3g_q1 R) (mkE 174 zf3g_l1 x) w :=
  pc_cut (l := zf3g_l2) 5 (zf3g_1_ok R) h
theorem zf3g_call (R : (Int × Int × Unit) → World → Prop) (l_0 : Option Addr) (items_1 : Sl) (w : World) (h : zf3g_0 R l_0 items_1 w) : mcall P n_zf3g [(.pointer l_0), (Sl.v items_1)] (.tup [I, I]) R w :=
  pc_top (l := zf3g_l1) (c := zf3g_B) Tryz.func128 (zf3g_0_ok R) h
noncomputable abbrev zf3h_B : Code := (Tryz.f129.body).getD .skip
abbrev zf3h_q1 (R : Int → World → Prop) := (topQ P [.tmp 2] I R)
abbrev zf3h_l1 : Slots := [(0, .p)]
abbrev zf3h_l2 : Slots := [(0, .p)]
def zf3h_1 (R : Int → World → Prop) (l_0 : Option Addr) : World → Prop :=
 mnil l_0 fun a26 =>
 ld P ztb (ad a26 6) I fun (x27 : Int) =>
 R x27
def zf3h_0 (R : Int → World → Prop) (l_0 : Option Addr) : World → Prop :=
 meq P .eql zts (.pointer l_0) (.pointer none) fun x1 =>
 mif x1
 (R 1)
 (mnil l_0 fun a2 =>
 ld P ztb (ad a2 6) I fun (x3 : Int) =>
 mif (x3 != 0)
 (mnil l_0 fun a4 =>
 ld P ztb (ad a4 6) I fun (x5 : Int) =>
 R x5)
 (mnil l_0 fun a6 =>
 ld P zt12 (ad a6 2) .sl fun (x7 : Sl) =>
 mif ((x7.len : Int) == 0)
 (mnil l_0 fun a8 =>
 ld P ztb (ad a8 6) I fun (x9 : Int) =>
 R x9)
 (mdraw <|
 mnil l_0 fun a10 =>
 ld P zte a10 .p fun (x11 : Option Addr) =>
 mnil l_0 fun a12 =>
 ld P zt12 (ad a12 2) .sl fun (x13 : Sl) =>
 mnil l_0 fun a14 =>
 ld P zt12 (ad a14 2) .sl fun (x15 : Sl) =>
 ixa P zt12 (Sl.v x13) (w64 ((x15.len : Int) - 1)) fun x16 =>
 ld P zt1 x16 I fun (x17 : Int) =>
 mcall P n_zf37 [(.pointer l_0), (.int .i64 x17)] .s fun (x18 : Bs) =>
 mst P (Instr.loadAt zte (.pointer (some a10))) (.pointer x11) <|
 mcall P n_zf1d [(.pointer x11), (.string ⟨x18.toArray⟩)] I fun (x19 : Int) =>
 mnil l_0 fun a20 =>
 sto P ztb (ad a20 6) I x19 <|
 mnil l_0 fun a21 =>
 ld P ztb (ad a21 6) I fun (x22 : Int) =>
 mif (x22 == 0)
 (mnil l_0 fun a23 =>
 ld P zt1 (ad a23 4) I fun (x24 : Int) =>
 mnil l_0 fun a25 =>
 sto P zt1 (ad a25 5) I x24 <|
 zf3h_1 R l_0)
 (zf3h_1 R l_0))))
theorem zf3h_1_ok (R : Int → World → Prop) (x : Option Addr × Unit) (w : World) (h : zf3h_1 R x.1 w) : WPC P 64 [] (Code.at zf3h_B [.snd, .snd, .snd]) (zf3h_q1 R) (mkE 64 zf3h_l2 x) w :=
  pc_end h
theorem zf3h_0_ok (R : Int → World → Prop) (x : Option Addr × Unit) (w : World) (h : zf3h_0 R x.1 w) : WPC P 64 [] (Code.at zf3h_B []) (zf3h_q1 R) (mkE 64 zf3h_l1 x) w :=
  pc_cut (l := zf3h_l2) 3 (zf3h_1_ok R) h
theorem zf3h_call (R : Int → World → Prop) (l_0 : Option Addr) (w : World) (h : zf3h_0 R l_0 w) : mcall P n_zf3h [(.pointer l_0)] I R w :=
  pc_top (l := zf3h_l1) (c := zf3h_B) Tryz.func129 (zf3h_0_ok R) h
noncomputable abbrev zf3i_B : Code := (Tryz.f132.body).getD .skip
abbrev zf3i_q1 (R : (Int × Bool × Unit) → World → Prop) := (topQ P [.tmp 4, .tmp 5] (.tup [I, .b]) R)
abbrev zf3i_l1 : Slots := [(0, I), (1, I)]
def zf3i_0 (R : (Int × Bool × Unit) → World → Prop) (n_0 : Int) (count_1 : Int) : World → Prop :=
 mif (decide (n_0 < (w64 (0 - count_1))))
 (R (0, false, ()))
 (mif (decide (n_0 > count_1))
 (R (0, false, ()))
 (R (mx n_0 (w64 (0 - n_0)), true, ())))
theorem zf3i_0_ok (R : (Int × Bool × Unit) → World → Prop) (x : Int × Int × Unit) (w : World) (h : zf3i_0 R x.1 x.2.1 w) : WPC P 19 [] (Code.at zf3i_B []) (zf3i_q1 R) (mkE 19 zf3i_l1 x) w :=
  pc_end h
theorem zf3i_call (R : (Int × Bool × Unit) → World → Prop) (n_0 : Int) (count_1 : Int) (w : World) (h : zf3i_0 R n_0 count_1 w) : mcall P n_zf3i [(.int .i64 n_0), (.int .i64 count_1)] (.tup [I, .b]) R w :=
  pc_top (l := zf3i_l1) (c := zf3i_B) Tryz.func132 (zf3i_0_ok R) h
noncomputable abbrev zf3j_B : Code := (Tryz.f133.body).getD .skip
abbrev zf3j_q1 (R : Int → World → Prop) := (topQ P [.tmp 2] I R)
abbrev zf3j_l1 : Slots := [(0, .sl)]
abbrev zf3j_l2 : Slots := [(0, .sl), (3, I)]
abbrev zf3j_l3 : Slots := [(3, I)]
def zf3j_2 (R : Int → World → Prop) (zero_3 : Int) : World → Prop :=
 R zero_3
abbrev zf3j_q2 (R : Int → World → Prop) := (thenQ (fun env => getE env zf3j_l3 fun (x : Int × Unit) => zf3j_2 R x.1) (zf3j_q1 R))
abbrev zf3j_l4 : Slots := [(0, .sl), (3, I)]
abbrev zf3j_l5 : Slots := [(8, I)]
abbrev zf3j_l6 : Slots := [(3, I), (6, .sl), (7, I)]
abbrev zf3j_q3 (c1 : (Int × Unit) → (Int × Sl × Int × Unit) → World → Prop) (R : Int → World → Prop) := (thenQ (fun env => getE env zf3j_l5 fun (s : Int × Unit) => getE env zf3j_l6 (c1 s)) (blockQ 0 ((zf3j_q2 R) .normal) (zf3j_q2 R)))
def zf3j_5 (c1 : (Int × Unit) → (Int × Sl × Int × Unit) → World → Prop) (R : Int → World → Prop) (v8 : Int) (zero_3 : Int) (v6 : Sl) (v7 : Int) : World → Prop :=
 mif (decide (v8 < v7))
 (ixa P zt7 (Sl.v v6) v8 fun x1 =>
 ld P zt1 x1 I fun (x2 : Int) =>
 mif (x2 != zero_3)
 (R x2)
 (c1 (w64 (v8 + 1), ()) (zero_3, v6, v7, ())))
 (zf3j_2 R zero_3)
def zf3j_4 (R : Int → World → Prop) (v8 : Int) (zero_3 : Int) (v6 : Sl) (v7 : Int) : World → Prop :=
 W.Loop (zero_3, v6, v7, ()) (fun (c1 : (Int × Unit) → (Int × Sl × Int × Unit) → World → Prop) (s : Int × Unit) => zf3j_5 c1 R s.1 zero_3 v6 v7) (v8, ())
def zf3j_3 (R : Int → World → Prop) (vals_0 : Sl) (zero_3 : Int) : World → Prop :=
 zf3j_4 R 0 zero_3 vals_0 (vals_0.len : Int)
def zf3j_1 (R : Int → World → Prop) (vals_0 : Sl) (zero_3 : Int) : World → Prop :=
 zf3j_3 R vals_0 zero_3
def zf3j_0 (R : Int → World → Prop) (vals_0 : Sl) : World → Prop :=
 zf3j_1 R vals_0 0
theorem zf3j_2_ok (R : Int → World → Prop) (x : Int × Unit) (w : World) (h : zf3j_2 R x.1 w) : WPC P 18 [] (Code.at zf3j_B [.snd, .snd, .snd]) (zf3j_q1 R) (mkE 18 zf3j_l3 x) w :=
  pc_end h
theorem zf3j_5_ok (c1 : (Int × Unit) → (Int × Sl × Int × Unit) → World → Prop) (R : Int → World → Prop) (x : Int × Unit) (y : Int × Sl × Int × Unit) (w : World) (h : zf3j_5 c1 R x.1 y.1 y.2.1 y.2.2.1 w) : WPC P 18 [] (Code.at zf3j_B [.snd, .snd, .fst, .snd, .blk, .blk]) (zf3j_q3 c1 R) (mkE2 18 zf3j_l5 zf3j_l6 x y) w :=
  pc_end h
theorem zf3j_4_ok (R : Int → World → Prop) (x : Int × Unit) (y : Int × Sl × Int × Unit) (w : World) (h : zf3j_4 R x.1 y.1 y.2.1 y.2.2.1 w) : WPC P 18 [] (Code.at zf3j_B [.snd, .snd, .fst, .snd]) (zf3j_q2 R) (mkE2 18 zf3j_l5 zf3j_l6 x y) w :=
  pc_loopE (l := zf3j_l5) (l' := zf3j_l6) (id := 0) (b := (Code.at zf3j_B [.snd, .snd, .fst, .snd, .blk, .blk])) (fun c1 s => zf3j_5_ok c1 R s y) h
theorem zf3j_3_ok (R : Int → World → Prop) (x : Sl × Int × Unit) (w : World) (h : zf3j_3 R x.1 x.2.1 w) : WPC P 18 [] (Code.at zf3j_B [.snd, .snd, .fst]) (zf3j_q2 R) (mkE 18 zf3j_l4 x) w :=
  pc_cut2 (l := zf3j_l5) (l' := zf3j_l6) 1 (zf3j_4_ok R) h
theorem zf3j_1_ok (R : Int → World → Prop) (x : Sl × Int × Unit) (w : World) (h : zf3j_1 R x.1 x.2.1 w) : WPC P 18 [] (Code.at zf3j_B [.snd, .snd]) (zf3j_q1 R) (mkE 18 zf3j_l2 x) w :=
  pc_seq (l := zf3j_l3) (a := (Code.at zf3j_B [.snd, .snd, .fst])) (b := (Code.at zf3j_B [.snd, .snd, .snd])) (pc_cut (l := zf3j_l4) (c := (Code.at zf3j_B [.snd, .snd, .fst])) 0 (zf3j_3_ok R) h) (zf3j_2_ok R)
theorem zf3j_0_ok (R : Int → World → Prop) (x : Sl × Unit) (w : World) (h : zf3j_0 R x.1 w) : WPC P 18 [] (Code.at zf3j_B []) (zf3j_q1 R) (mkE 18 zf3j_l1 x) w :=
  pc_cut (l := zf3j_l2) 2 (zf3j_1_ok R) h
theorem zf3j_call (R : Int → World → Prop) (vals_0 : Sl) (w : World) (h : zf3j_0 R vals_0 w) : mcall P n_zf3j [(Sl.v vals_0)] I R w :=
  pc_top (l := zf3j_l1) (c := zf3j_B) Tryz.func133 (zf3j_0_ok R) h
noncomputable abbrev zf3k_B : Code := (Tryz.f134.body).getD .skip
abbrev zf3k_q1 (R : Int → World → Prop) := (topQ P [.tmp 4] I R)
abbrev zf3k_l1 : Slots := [(0, I), (1, I)]
def zf3k_0 (R : Int → World → Prop) (x_0 : Int) (y_1 : Int) : World → Prop :=
 mcall P n_zf4k [(.int .i64 x_0)] .b fun (x1 : Bool) =>
 mcall P n_zf4k [(.int .i64 y_1)] .b fun (x2 : Bool) =>
 mif x1
 (mif x2
 (R 0)
 (R (-1)))
 (mif x2
 (R 1)
 (mif (decide (x_0 < y_1))
 (R (-1))
 (mif (decide (x_0 > y_1))
 (R 1)
 (R 0))))
theorem zf3k_0_ok (R : Int → World → Prop) (x : Int × Int × Unit) (w : World) (h : zf3k_0 R x.1 x.2.1 w) : WPC P 20 [] (Code.at zf3k_B []) (zf3k_q1 R) (mkE 20 zf3k_l1 x) w :=
  pc_end h
theorem zf3k_call (R : Int → World → Prop) (x_0 : Int) (y_1 : Int) (w : World) (h : zf3k_0 R x_0 y_1 w) : mcall P n_zf3k [(.int .i64 x_0), (.int .i64 y_1)] I R w :=
  pc_top (l := zf3k_l1) (c := zf3k_B) Tryz.func134 (zf3k_0_ok R) h
noncomputable abbrev zf3n_B : Code := (Tryz.f137.body).getD .skip
abbrev zf3n_q1 (R : Int → World → Prop) := (topQ P [.tmp 4] I R)
abbrev zf3n_l1 : Slots := [(0, I), (1, I)]
def zf3n_0 (R : Int → World → Prop) (a_0 : Int) (b_1 : Int) : World → Prop :=
 mif (decide (b_1 > 0))
 (mif (decide ((w64 (a_0 + b_1)) < a_0))
 (R 9223372036854775807)
 (mif (decide (b_1 < 0))
 (mif (decide ((w64 (a_0 + b_1)) > a_0))
 (R (-9223372036854775808))
 (R (w64 (a_0 + b_1))))
 (R (w64 (a_0 + b_1)))))
 (mif (decide (b_1 < 0))
 (mif (decide ((w64 (a_0 + b_1)) > a_0))
 (R (-9223372036854775808))
 (R (w64 (a_0 + b_1))))
 (R (w64 (a_0 + b_1))))
theorem zf3n_0_ok (R : Int → World → Prop) (x : Int × Int × Unit) (w : World) (h : zf3n_0 R x.1 x.2.1 w) : WPC P 26 [] (Code.at zf3n_B []) (zf3n_q1 R) (mkE 26 zf3n_l1 x) w :=
  pc_end h
theorem zf3n_call (R : Int → World → Prop) (a_0 : Int) (b_1 : Int) (w : World) (h : zf3n_0 R a_0 b_1 w) : mcall P n_zf3n [(.int .i64 a_0), (.int .i64 b_1)] I R w :=
  pc_top (l := zf3n_l1) (c := zf3n_B) Tryz.func137 (zf3n_0_ok R) h
noncomputable abbrev zf3o_B : Code := (Tryz.f138.body).getD .skip
abbrev zf3o_q1 (R : Int → World → Prop) := (topQ P [.tmp 2] I R)
abbrev zf3o_l1 : Slots := [(0, I)]
def zf3o_0 (R : Int → World → Prop) (v_0 : Int) : World → Prop :=
 mif (decide (v_0 < 0))
 (R 0)
 (mif (decide (v_0 < 10))
 (R 1)
 (mif (decide (v_0 < 100))
 (R 2)
 (R 3)))
theorem zf3o_0_ok (R : Int → World → Prop) (x : Int × Unit) (w : World) (h : zf3o_0 R x.1 w) : WPC P 12 [] (Code.at zf3o_B []) (zf3o_q1 R) (mkE 12 zf3o_l1 x) w :=
  pc_end h
theorem zf3o_call (R : Int → World → Prop) (v_0 : Int) (w : World) (h : zf3o_0 R v_0 w) : mcall P n_zf3o [(.int .i64 v_0)] I R w :=
  pc_top (l := zf3o_l1) (c := zf3o_B) Tryz.func138 (zf3o_0_ok R) h
noncomputable abbrev zf3q_B : Code := (Tryz.f140.body).getD .skip
abbrev zf3q_q1 (R : Bs → World → Prop) := (topQ P [.tmp 2] .s R)
abbrev zf3q_l1 : Slots := [(0, I)]
abbrev zf3q_l2 : Slots := [(3, (.i .u64))]
abbrev zf3q_l3 : Slots := [(3, (.i .u64)), (4, .sl)]
abbrev zf3q_l4 : Slots := []
abbrev zf3q_l5 : Slots := [(3, (.i .u64)), (4, .sl)]
def zf3q_3 (R : Bs → World → Prop) (u_3 : Int) (b_4 : Sl) : World → Prop :=
 bsl P zt10 (.i .u8) [wr8 u_3] fun x1 =>
 app P #[zt10, zt10] zt10 (Sl.v b_4) (Sl.v x1) fun x2 =>
 mrd P (convert zt10 zt4 (.slice x2.a x2.len x2.cap)) .s fun (x3 : Bs) =>
 R x3
abbrev zf3q_q2 (c1 : (Int × Sl × Unit) → Unit → World → Prop) (R : Bs → World → Prop) := (thenQ (fun env => getE env zf3q_l3 fun (s : Int × Sl × Unit) => getE env zf3q_l4 (c1 s)) (blockQ 0 (fun env => getE env zf3q_l5 fun (x : Int × Sl × Unit) => zf3q_3 R x.1 x.2.1) (zf3q_q1 R)))
def zf3q_4 (c1 : (Int × Sl × Unit) → Unit → World → Prop) (R : Bs → World → Prop) (u_3 : Int) (b_4 : Sl) : World → Prop :=
 mif (decide (u_3 > 127))
 (bsl P zt10 (.i .u8) [wr8 (wr64 ((u_3.tmod 128) + 128))] fun x4 =>
 app P #[zt10, zt10] zt10 (Sl.v b_4) (Sl.v x4) fun x5 =>
 c1 (wr64 (u_3.tdiv 128), x5, ()) (()))
 (zf3q_3 R u_3 b_4)
def zf3q_2 (R : Bs → World → Prop) (u_3 : Int) (b_4 : Sl) : World → Prop :=
 W.Loop (()) (fun (c1 : (Int × Sl × Unit) → Unit → World → Prop) (s : Int × Sl × Unit) => zf3q_4 c1 R s.1 s.2.1) (u_3, b_4, ())
def zf3q_1 (R : Bs → World → Prop) (u_3 : Int) : World → Prop :=
 zf3q_2 R u_3 ⟨none, 0, 0⟩
def zf3q_0 (R : Bs → World → Prop) (n_0 : Int) : World → Prop :=
 mif (decide (n_0 < 0))
 (zf3q_1 R (wr64 ((wr64 ((wr64 (w64 (0 - (w64 (n_0 + 1))))) * 2)) + 1)))
 (zf3q_1 R (wr64 ((wr64 n_0) * 2)))
theorem zf3q_3_ok (R : Bs → World → Prop) (x : Int × Sl × Unit) (w : World) (h : zf3q_3 R x.1 x.2.1 w) : WPC P 34 [] (Code.at zf3q_B [.snd, .snd, .snd, .snd, .snd]) (zf3q_q1 R) (mkE 34 zf3q_l5 x) w :=
  pc_end h
theorem zf3q_4_ok (c1 : (Int × Sl × Unit) → Unit → World → Prop) (R : Bs → World → Prop) (x : Int × Sl × Unit) (y : Unit) (w : World) (h : zf3q_4 c1 R x.1 x.2.1 w) : WPC P 34 [] (Code.at zf3q_B [.snd, .snd, .snd, .snd, .fst, .blk, .blk]) (zf3q_q2 c1 R) (mkE2 34 zf3q_l3 zf3q_l4 x y) w :=
  pc_end h
theorem zf3q_2_ok (R : Bs → World → Prop) (x : Int × Sl × Unit) (y : Unit) (w : World) (h : zf3q_2 R x.1 x.2.1 w) : WPC P 34 [] (Code.at zf3q_B [.snd, .snd, .snd, .snd]) (zf3q_q1 R) (mkE2 34 zf3q_l3 zf3q_l4 x y) w :=
  pc_loopR (l := zf3q_l3) (l' := zf3q_l4) (lr := zf3q_l5) (FR := fun (x : Int × Sl × Unit) => zf3q_3 R x.1 x.2.1) (id := 0) (b := (Code.at zf3q_B [.snd, .snd, .snd, .snd, .fst, .blk, .blk])) (rest := (Code.at zf3q_B [.snd, .snd, .snd, .snd, .snd])) (fun c1 s => zf3q_4_ok c1 R s y) (zf3q_3_ok R) h
theorem zf3q_1_ok (R : Bs → World → Prop) (x : Int × Unit) (w : World) (h : zf3q_1 R x.1 w) : WPC P 34 [] (Code.at zf3q_B [.snd, .snd, .snd]) (zf3q_q1 R) (mkE 34 zf3q_l2 x) w :=
  pc_cut2 (l := zf3q_l3) (l' := zf3q_l4) 1 (zf3q_2_ok R) h
theorem zf3q_0_ok (R : Bs → World → Prop) (x : Int × Unit) (w : World) (h : zf3q_0 R x.1 w) : WPC P 34 [] (Code.at zf3q_B []) (zf3q_q1 R) (mkE 34 zf3q_l1 x) w :=
  pc_cut (l := zf3q_l2) 3 (zf3q_1_ok R) h
theorem zf3q_call (R : Bs → World → Prop) (n_0 : Int) (w : World) (h : zf3q_0 R n_0 w) : mcall P n_zf3q [(.int .i64 n_0)] .s R w :=
  pc_top (l := zf3q_l1) (c := zf3q_B) Tryz.func140 (zf3q_0_ok R) h
noncomputable abbrev zf3r_B : Code := (Tryz.f141.body).getD .skip
abbrev zf3r_q1 (R : Int → World → Prop) := (topQ P [.tmp 4] I R)
abbrev zf3r_l1 : Slots := [(0, I), (1, I)]
abbrev zf3r_l2 : Slots := [(0, I), (1, I)]
abbrev zf3r_l3 : Slots := [(0, I), (1, I)]
def zf3r_2 (R : Int → World → Prop) (a_0 : Int) (b_1 : Int) : World → Prop :=
 R (w64 (a_0 + b_1))
def zf3r_1 (R : Int → World → Prop) (a_0 : Int) (b_1 : Int) : World → Prop :=
 mif (decide (b_1 < 0))
 (mif (decide (a_0 < (w64 ((-9223372036854775808) - b_1))))
 (R (-9223372036854775808))
 (zf3r_2 R a_0 b_1))
 (zf3r_2 R a_0 b_1)
def zf3r_0 (R : Int → World → Prop) (a_0 : Int) (b_1 : Int) : World → Prop :=
 mif (decide (b_1 > 0))
 (mif (decide (a_0 > (w64 (9223372036854775807 - b_1))))
 (R 9223372036854775807)
 (zf3r_1 R a_0 b_1))
 (zf3r_1 R a_0 b_1)
theorem zf3r_2_ok (R : Int → World → Prop) (x : Int × Int × Unit) (w : World) (h : zf3r_2 R x.1 x.2.1 w) : WPC P 24 [] (Code.at zf3r_B [.snd, .snd, .snd]) (zf3r_q1 R) (mkE 24 zf3r_l3 x) w :=
  pc_end h
theorem zf3r_1_ok (R : Int → World → Prop) (x : Int × Int × Unit) (w : World) (h : zf3r_1 R x.1 x.2.1 w) : WPC P 24 [] (Code.at zf3r_B [.snd, .snd]) (zf3r_q1 R) (mkE 24 zf3r_l2 x) w :=
  pc_cut (l := zf3r_l3) 1 (zf3r_2_ok R) h
theorem zf3r_0_ok (R : Int → World → Prop) (x : Int × Int × Unit) (w : World) (h : zf3r_0 R x.1 x.2.1 w) : WPC P 24 [] (Code.at zf3r_B []) (zf3r_q1 R) (mkE 24 zf3r_l1 x) w :=
  pc_cut (l := zf3r_l2) 2 (zf3r_1_ok R) h
theorem zf3r_call (R : Int → World → Prop) (a_0 : Int) (b_1 : Int) (w : World) (h : zf3r_0 R a_0 b_1 w) : mcall P n_zf3r [(.int .i64 a_0), (.int .i64 b_1)] I R w :=
  pc_top (l := zf3r_l1) (c := zf3r_B) Tryz.func141 (zf3r_0_ok R) h
noncomputable abbrev zf3s_B : Code := (Tryz.f142.body).getD .skip
abbrev zf3s_q1 (R : Int → World → Prop) := (topQ P [.tmp 2] I R)
abbrev zf3s_l1 : Slots := [(0, I)]
def zf3s_0 (R : Int → World → Prop) (v_0 : Int) : World → Prop :=
 mif (decide (v_0 ≥ 100))
 (R 3)
 (mif (decide (v_0 ≥ 10))
 (R 2)
 (mif (decide (v_0 ≥ 0))
 (R 1)
 (R 0)))
theorem zf3s_0_ok (R : Int → World → Prop) (x : Int × Unit) (w : World) (h : zf3s_0 R x.1 w) : WPC P 9 [] (Code.at zf3s_B []) (zf3s_q1 R) (mkE 9 zf3s_l1 x) w :=
  pc_end h
theorem zf3s_call (R : Int → World → Prop) (v_0 : Int) (w : World) (h : zf3s_0 R v_0 w) : mcall P n_zf3s [(.int .i64 v_0)] I R w :=
  pc_top (l := zf3s_l1) (c := zf3s_B) Tryz.func142 (zf3s_0_ok R) h
noncomputable abbrev zf3t_B : Code := (Tryz.f143.body).getD .skip
abbrev zf3t_q1 (R : Unit → World → Prop) := (topQ P [] (.tup []) R)
abbrev zf3t_l1 : Slots := [(0, .p)]
def zf3t_0 (R : Unit → World → Prop) (b_0 : Option Addr) : World → Prop :=
 mnil b_0 fun a1 =>
 ld P ztz a1 .p fun (x2 : Option Addr) =>
 meq P .eql ztz (.pointer x2) (.pointer none) fun x3 =>
 mif x3
 (mrd P (convert ztz zt1j (.pointer b_0)) .v fun (x4 : Value) =>
 mcall P n_zf4l [x4] .v fun (x5 : Value) =>
 mrd P (convert zt1j ztz x5) .p fun (x6 : Option Addr) =>
 mnil b_0 fun a7 =>
 sto P ztz a7 .p x6 <|
 R (()))
 (mnil b_0 fun a8 =>
 ld P ztz a8 .p fun (x9 : Option Addr) =>
 meq P .neq ztz (.pointer x9) (.pointer b_0) fun x10 =>
 mif x10
 ((fun _ => False))
 (R (())))
theorem zf3t_0_ok (R : Unit → World → Prop) (x : Option Addr × Unit) (w : World) (h : zf3t_0 R x.1 w) : WPC P 20 [] (Code.at zf3t_B []) (zf3t_q1 R) (mkE 20 zf3t_l1 x) w :=
  pc_end h
theorem zf3t_call (R : Unit → World → Prop) (b_0 : Option Addr) (w : World) (h : zf3t_0 R b_0 w) : mcall P n_zf3t [(.pointer b_0)] (.tup []) R w :=
  pc_top (l := zf3t_l1) (c := zf3t_B) Tryz.func143 (zf3t_0_ok R) h
noncomputable abbrev zf3u_B : Code := (Tryz.f144.body).getD .skip
abbrev zf3u_q1 (R : Bs → World → Prop) := (topQ P [.tmp 2] .s R)
abbrev zf3u_l1 : Slots := [(0, .s)]
def zf3u_0 (R : Bs → World → Prop) (s_0 : Bs) : World → Prop :=
 mcall P n_zf2g [(.int .i64 (s_0.length : Int))] .s fun (x1 : Bs) =>
 mcat x1 s_0 fun s2 =>
 R s2
theorem zf3u_0_ok (R : Bs → World → Prop) (x : Bs × Unit) (w : World) (h : zf3u_0 R x.1 w) : WPC P 8 [] (Code.at zf3u_B []) (zf3u_q1 R) (mkE 8 zf3u_l1 x) w :=
  pc_end h
theorem zf3u_call (R : Bs → World → Prop) (s_0 : Bs) (w : World) (h : zf3u_0 R s_0 w) : mcall P n_zf3u [(.string ⟨s_0.toArray⟩)] .s R w :=
  pc_top (l := zf3u_l1) (c := zf3u_B) Tryz.func144 (zf3u_0_ok R) h
noncomputable abbrev zf3v_B : Code := (Tryz.f145.body).getD .skip
abbrev zf3v_q1 (R : Int → World → Prop) := (topQ P [.tmp 2] (.i .u32) R)
abbrev zf3v_l1 : Slots := [(0, .s)]
def zf3v_0 (R : Int → World → Prop) (s_0 : Bs) : World → Prop :=
 mcall P n_zf4m [(.int .u32 0), (.string ⟨s_0.toArray⟩)] (.i .u32) fun (x1 : Int) =>
 R x1
theorem zf3v_0_ok (R : Int → World → Prop) (x : Bs × Unit) (w : World) (h : zf3v_0 R x.1 w) : WPC P 5 [] (Code.at zf3v_B []) (zf3v_q1 R) (mkE 5 zf3v_l1 x) w :=
  pc_end h
theorem zf3v_call (R : Int → World → Prop) (s_0 : Bs) (w : World) (h : zf3v_0 R s_0 w) : mcall P n_zf3v [(.string ⟨s_0.toArray⟩)] (.i .u32) R w :=
  pc_top (l := zf3v_l1) (c := zf3v_B) Tryz.func145 (zf3v_0_ok R) h
noncomputable abbrev zf3y_B : Code := (Tryz.f148.body).getD .skip
abbrev zf3y_q1 (R : (zTf × Bool × Unit) → World → Prop) := (topQ P [.cell 2 zt1e, .tmp 3] (.tup [zkf, .b]) R)
abbrev zf3y_l1 : Slots := [(0, .s)]
abbrev zf3y_l2 : Slots := [(0, .s), (2, .ad)]
abbrev zf3y_l3 : Slots := [(2, .ad)]
def zf3y_2 (R : (zTf × Bool × Unit) → World → Prop) (as_2 : Addr) : World → Prop :=
 ld P zt1e as_2 zkf fun (x2 : zTf) =>
 sto P zt1e as_2 zkf x2 <|
 ld P zt1e as_2 zkf fun (x3 : zTf) =>
 R (x3, true, ())
abbrev zf3y_q2 (R : (zTf × Bool × Unit) → World → Prop) := (thenQ (fun env => getE env zf3y_l3 fun (x : Addr × Unit) => zf3y_2 R x.1) (zf3y_q1 R))
abbrev zf3y_l4 : Slots := [(0, .s), (2, .ad)]
abbrev zf3y_l5 : Slots := [(4, I)]
abbrev zf3y_l6 : Slots := [(0, .s), (2, .ad)]
abbrev zf3y_q3 (c1 : (Int × Unit) → (Bs × Addr × Unit) → World → Prop) (R : (zTf × Bool × Unit) → World → Prop) := (thenQ (fun env => getE env zf3y_l5 fun (s : Int × Unit) => getE env zf3y_l6 (c1 s)) (blockQ 0 ((zf3y_q2 R) .normal) (zf3y_q2 R)))
def zf3y_5 (c1 : (Int × Unit) → (Bs × Addr × Unit) → World → Prop) (R : (zTf × Bool × Unit) → World → Prop) (i_4 : Int) (chars_0 : Bs) (as_2 : Addr) : World → Prop :=
 mif (decide (i_4 < (chars_0.length : Int)))
 (ixs P zt4 chars_0 i_4 fun x4 =>
 mif (decide (x4 ≥ 128))
 (ld P zt1e as_2 zkf fun (x5 : zTf) =>
 sto P zt1e as_2 zkf x5 <|
 ld P zt1e as_2 zkf fun (x6 : zTf) =>
 R (x6, false, ()))
 (mrd P (Instr.indexAt zt1e (.pointer (some as_2)) (.int .u8 x4)) .ad fun (x7 : Addr) =>
 sto P zt2 x7 .b true <|
 c1 (w64 (i_4 + 1), ()) (chars_0, as_2, ())))
 (zf3y_2 R as_2)
def zf3y_4 (R : (zTf × Bool × Unit) → World → Prop) (i_4 : Int) (chars_0 : Bs) (as_2 : Addr) : World → Prop :=
 W.Loop (chars_0, as_2, ()) (fun (c1 : (Int × Unit) → (Bs × Addr × Unit) → World → Prop) (s : Int × Unit) => zf3y_5 c1 R s.1 chars_0 as_2) (i_4, ())
def zf3y_3 (R : (zTf × Bool × Unit) → World → Prop) (chars_0 : Bs) (as_2 : Addr) : World → Prop :=
 zf3y_4 R 0 chars_0 as_2
def zf3y_1 (R : (zTf × Bool × Unit) → World → Prop) (chars_0 : Bs) (as_2 : Addr) : World → Prop :=
 zf3y_3 R chars_0 as_2
def zf3y_0 (R : (zTf × Bool × Unit) → World → Prop) (chars_0 : Bs) : World → Prop :=
 alo P zt1e fun a1 =>
 zf3y_1 R chars_0 a1
theorem zf3y_2_ok (R : (zTf × Bool × Unit) → World → Prop) (x : Addr × Unit) (w : World) (h : zf3y_2 R x.1 w) : WPC P 21 [] (Code.at zf3y_B [.snd, .snd]) (zf3y_q1 R) (mkE 21 zf3y_l3 x) w :=
  pc_end h
theorem zf3y_5_ok (c1 : (Int × Unit) → (Bs × Addr × Unit) → World → Prop) (R : (zTf × Bool × Unit) → World → Prop) (x : Int × Unit) (y : Bs × Addr × Unit) (w : World) (h : zf3y_5 c1 R x.1 y.1 y.2.1 w) : WPC P 21 [] (Code.at zf3y_B [.snd, .fst, .snd, .blk, .blk]) (zf3y_q3 c1 R) (mkE2 21 zf3y_l5 zf3y_l6 x y) w :=
  pc_end h
theorem zf3y_4_ok (R : (zTf × Bool × Unit) → World → Prop) (x : Int × Unit) (y : Bs × Addr × Unit) (w : World) (h : zf3y_4 R x.1 y.1 y.2.1 w) : WPC P 21 [] (Code.at zf3y_B [.snd, .fst, .snd]) (zf3y_q2 R) (mkE2 21 zf3y_l5 zf3y_l6 x y) w :=
  pc_loopE (l := zf3y_l5) (l' := zf3y_l6) (id := 0) (b := (Code.at zf3y_B [.snd, .fst, .snd, .blk, .blk])) (fun c1 s => zf3y_5_ok c1 R s y) h
theorem zf3y_3_ok (R : (zTf × Bool × Unit) → World → Prop) (x : Bs × Addr × Unit) (w : World) (h : zf3y_3 R x.1 x.2.1 w) : WPC P 21 [] (Code.at zf3y_B [.snd, .fst]) (zf3y_q2 R) (mkE 21 zf3y_l4 x) w :=
  pc_cut2 (l := zf3y_l5) (l' := zf3y_l6) 1 (zf3y_4_ok R) h
theorem zf3y_1_ok (R : (zTf × Bool × Unit) → World → Prop) (x : Bs × Addr × Unit) (w : World) (h : zf3y_1 R x.1 x.2.1 w) : WPC P 21 [] (Code.at zf3y_B [.snd]) (zf3y_q1 R) (mkE 21 zf3y_l2 x) w :=
  pc_seq (l := zf3y_l3) (a := (Code.at zf3y_B [.snd, .fst])) (b := (Code.at zf3y_B [.snd, .snd])) (pc_cut (l := zf3y_l4) (c := (Code.at zf3y_B [.snd, .fst])) 0 (zf3y_3_ok R) h) (zf3y_2_ok R)
theorem zf3y_0_ok (R : (zTf × Bool × Unit) → World → Prop) (x : Bs × Unit) (w : World) (h : zf3y_0 R x.1 w) : WPC P 21 [] (Code.at zf3y_B []) (zf3y_q1 R) (mkE 21 zf3y_l1 x) w :=
  pc_cut (l := zf3y_l2) 1 (zf3y_1_ok R) h
theorem zf3y_call (R : (zTf × Bool × Unit) → World → Prop) (chars_0 : Bs) (w : World) (h : zf3y_0 R chars_0 w) : mcall P n_zf3y [(.string ⟨chars_0.toArray⟩)] (.tup [zkf, .b]) R w :=
  pc_top (l := zf3y_l1) (c := zf3y_B) Tryz.func148 (zf3y_0_ok R) h
noncomputable abbrev zf3z_B : Code := (Tryz.f149.body).getD .skip
abbrev zf3z_q1 (R : Bs → World → Prop) := (topQ P [.tmp 4] .s R)
abbrev zf3z_l1 : Slots := [(0, .s), (1, .p)]
abbrev zf3z_l2 : Slots := [(0, .s)]
abbrev zf3z_l3 : Slots := [(1, .p)]
abbrev zf3z_l4 : Slots := [(0, .s)]
def zf3z_2 (R : Bs → World → Prop) (s_0 : Bs) : World → Prop :=
 R s_0
abbrev zf3z_q2 (c1 : (Bs × Unit) → (Option Addr × Unit) → World → Prop) (R : Bs → World → Prop) := (thenQ (fun env => getE env zf3z_l2 fun (s : Bs × Unit) => getE env zf3z_l3 (c1 s)) (blockQ 0 (fun env => getE env zf3z_l4 fun (x : Bs × Unit) => zf3z_2 R x.1) (zf3z_q1 R)))
def zf3z_3 (c1 : (Bs × Unit) → (Option Addr × Unit) → World → Prop) (R : Bs → World → Prop) (s_0 : Bs) (as_1 : Option Addr) : World → Prop :=
 mif (decide ((s_0.length : Int) > 0))
 (ixs P zt4 s_0 0 fun x1 =>
 mcall P n_zf4n [(.pointer as_1), (.int .u8 x1)] .b fun (x2 : Bool) =>
 mif (!x2)
 (zf3z_2 R s_0)
 (sls P zt4 s_0 (some 1) none fun x3 =>
 c1 (x3, ()) (as_1, ())))
 (zf3z_2 R s_0)
def zf3z_1 (R : Bs → World → Prop) (s_0 : Bs) (as_1 : Option Addr) : World → Prop :=
 W.Loop (as_1, ()) (fun (c1 : (Bs × Unit) → (Option Addr × Unit) → World → Prop) (s : Bs × Unit) => zf3z_3 c1 R s.1 as_1) (s_0, ())
def zf3z_0 (R : Bs → World → Prop) (s_0 : Bs) (as_1 : Option Addr) : World → Prop :=
 zf3z_1 R s_0 as_1
theorem zf3z_2_ok (R : Bs → World → Prop) (x : Bs × Unit) (w : World) (h : zf3z_2 R x.1 w) : WPC P 16 [] (Code.at zf3z_B [.snd, .snd]) (zf3z_q1 R) (mkE 16 zf3z_l4 x) w :=
  pc_end h
theorem zf3z_3_ok (c1 : (Bs × Unit) → (Option Addr × Unit) → World → Prop) (R : Bs → World → Prop) (x : Bs × Unit) (y : Option Addr × Unit) (w : World) (h : zf3z_3 c1 R x.1 y.1 w) : WPC P 16 [] (Code.at zf3z_B [.snd, .fst, .blk, .blk]) (zf3z_q2 c1 R) (mkE2 16 zf3z_l2 zf3z_l3 x y) w :=
  pc_end h
theorem zf3z_1_ok (R : Bs → World → Prop) (x : Bs × Unit) (y : Option Addr × Unit) (w : World) (h : zf3z_1 R x.1 y.1 w) : WPC P 16 [] (Code.at zf3z_B [.snd]) (zf3z_q1 R) (mkE2 16 zf3z_l2 zf3z_l3 x y) w :=
  pc_loopR (l := zf3z_l2) (l' := zf3z_l3) (lr := zf3z_l4) (FR := fun (x : Bs × Unit) => zf3z_2 R x.1) (id := 0) (b := (Code.at zf3z_B [.snd, .fst, .blk, .blk])) (rest := (Code.at zf3z_B [.snd, .snd])) (fun c1 s => zf3z_3_ok c1 R s y) (zf3z_2_ok R) h
theorem zf3z_0_ok (R : Bs → World → Prop) (x : Bs × Option Addr × Unit) (w : World) (h : zf3z_0 R x.1 x.2.1 w) : WPC P 16 [] (Code.at zf3z_B []) (zf3z_q1 R) (mkE 16 zf3z_l1 x) w :=
  pc_cut2 (l := zf3z_l2) (l' := zf3z_l3) 1 (zf3z_1_ok R) h
theorem zf3z_call (R : Bs → World → Prop) (s_0 : Bs) (as_1 : Option Addr) (w : World) (h : zf3z_0 R s_0 as_1 w) : mcall P n_zf3z [(.string ⟨s_0.toArray⟩), (.pointer as_1)] .s R w :=
  pc_top (l := zf3z_l1) (c := zf3z_B) Tryz.func149 (zf3z_0_ok R) h
noncomputable abbrev zf40_B : Code := (Tryz.f150.body).getD .skip
abbrev zf40_q1 (R : Bs → World → Prop) := (topQ P [.tmp 4] .s R)
abbrev zf40_l1 : Slots := [(0, .s), (1, .p)]
abbrev zf40_l2 : Slots := [(0, .s)]
abbrev zf40_l3 : Slots := [(1, .p)]
abbrev zf40_l4 : Slots := [(0, .s)]
def zf40_2 (R : Bs → World → Prop) (s_0 : Bs) : World → Prop :=
 R s_0
abbrev zf40_q2 (c1 : (Bs × Unit) → (Option Addr × Unit) → World → Prop) (R : Bs → World → Prop) := (thenQ (fun env => getE env zf40_l2 fun (s : Bs × Unit) => getE env zf40_l3 (c1 s)) (blockQ 0 (fun env => getE env zf40_l4 fun (x : Bs × Unit) => zf40_2 R x.1) (zf40_q1 R)))
def zf40_3 (c1 : (Bs × Unit) → (Option Addr × Unit) → World → Prop) (R : Bs → World → Prop) (s_0 : Bs) (as_1 : Option Addr) : World → Prop :=
 mif (decide ((s_0.length : Int) > 0))
 (ixs P zt4 s_0 (w64 ((s_0.length : Int) - 1)) fun x1 =>
 mcall P n_zf4n [(.pointer as_1), (.int .u8 x1)] .b fun (x2 : Bool) =>
 mif (!x2)
 (zf40_2 R s_0)
 (sls P zt4 s_0 none (some (w64 ((s_0.length : Int) - 1))) fun x3 =>
 c1 (x3, ()) (as_1, ())))
 (zf40_2 R s_0)
def zf40_1 (R : Bs → World → Prop) (s_0 : Bs) (as_1 : Option Addr) : World → Prop :=
 W.Loop (as_1, ()) (fun (c1 : (Bs × Unit) → (Option Addr × Unit) → World → Prop) (s : Bs × Unit) => zf40_3 c1 R s.1 as_1) (s_0, ())
def zf40_0 (R : Bs → World → Prop) (s_0 : Bs) (as_1 : Option Addr) : World → Prop :=
 zf40_1 R s_0 as_1
theorem zf40_2_ok (R : Bs → World → Prop) (x : Bs × Unit) (w : World) (h : zf40_2 R x.1 w) : WPC P 22 [] (Code.at zf40_B [.snd, .snd]) (zf40_q1 R) (mkE 22 zf40_l4 x) w :=
  pc_end h
theorem zf40_3_ok (c1 : (Bs × Unit) → (Option Addr × Unit) → World → Prop) (R : Bs → World → Prop) (x : Bs × Unit) (y : Option Addr × Unit) (w : World) (h : zf40_3 c1 R x.1 y.1 w) : WPC P 22 [] (Code.at zf40_B [.snd, .fst, .blk, .blk]) (zf40_q2 c1 R) (mkE2 22 zf40_l2 zf40_l3 x y) w :=
  pc_end h
theorem zf40_1_ok (R : Bs → World → Prop) (x : Bs × Unit) (y : Option Addr × Unit) (w : World) (h : zf40_1 R x.1 y.1 w) : WPC P 22 [] (Code.at zf40_B [.snd]) (zf40_q1 R) (mkE2 22 zf40_l2 zf40_l3 x y) w :=
  pc_loopR (l := zf40_l2) (l' := zf40_l3) (lr := zf40_l4) (FR := fun (x : Bs × Unit) => zf40_2 R x.1) (id := 0) (b := (Code.at zf40_B [.snd, .fst, .blk, .blk])) (rest := (Code.at zf40_B [.snd, .snd])) (fun c1 s => zf40_3_ok c1 R s y) (zf40_2_ok R) h
theorem zf40_0_ok (R : Bs → World → Prop) (x : Bs × Option Addr × Unit) (w : World) (h : zf40_0 R x.1 x.2.1 w) : WPC P 22 [] (Code.at zf40_B []) (zf40_q1 R) (mkE 22 zf40_l1 x) w :=
  pc_cut2 (l := zf40_l2) (l' := zf40_l3) 1 (zf40_1_ok R) h
theorem zf40_call (R : Bs → World → Prop) (s_0 : Bs) (as_1 : Option Addr) (w : World) (h : zf40_0 R s_0 as_1 w) : mcall P n_zf40 [(.string ⟨s_0.toArray⟩), (.pointer as_1)] .s R w :=
  pc_top (l := zf40_l1) (c := zf40_B) Tryz.func150 (zf40_0_ok R) h
end Go.Proofs.YtpjhflboedicpaaGreatDoor
