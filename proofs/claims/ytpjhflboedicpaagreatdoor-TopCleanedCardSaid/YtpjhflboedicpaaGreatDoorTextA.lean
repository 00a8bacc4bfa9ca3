/- Short texts of functions of the program, each with the proof that a call comes to it. No condition. -/
import Derived.Test.YtpjhflboedicpaaGreatDoorNames
set_option linter.unusedVariables false
set_option linter.unusedSimpArgs false
namespace Go.Proofs.YtpjhflboedicpaaGreatDoor
open Go Go.W
set_option maxRecDepth 100000
noncomputable abbrev zf0_B : Code := (Tryz.f3.body).getD .skip
abbrev zf0_q1 (R : Bool → World → Prop) := (topQ P [.tmp 10] .b R)
abbrev zf0_l1 : Slots := [(0, zk0), (1, .sl), (2, I), (3, I), (4, .sl)]
abbrev zf0_l2 : Slots := [(1, .sl), (2, I), (3, I), (4, .sl), (5, .ad), (11, .ad), (12, .sl)]
abbrev zf0_l3 : Slots := [(2, I), (3, I), (4, .sl), (5, .ad), (11, .ad), (12, .sl)]
abbrev zf0_l4 : Slots := [(2, I), (3, I), (4, .sl), (5, .ad), (11, .ad), (12, .sl), (22, .p)]
abbrev zf0_l5 : Slots := [(2, I), (5, .ad), (11, .ad), (24, .sl), (25, I), (26, .ad), (27, I)]
abbrev zf0_l6 : Slots := [(11, .ad), (25, I), (26, .ad), (27, I), (28, .ad), (29, I)]
def zf0_5 (R : Bool → World → Prop) (state_11 : Addr) (f_25 : Int) (s_26 : Addr) (h_27 : Int) (t_28 : Addr) (i_29 : Int) : World → Prop :=
 mif (f_25 == 0)
 (mif (h_27 == 0)
 (mif (i_29 == 0)
 (ld P zt9 s_26 zk1 fun (x40 : zT1) =>
 ld P zt9 state_11 zk1 fun (x41 : zT1) =>
 mcall P n_zfg [(KV zk1 x40), (KV zk1 x41)] .b fun (x42 : Bool) =>
 mif x42
 (ld P zt9 t_28 zk1 fun (x43 : zT1) =>
 ld P zt9 state_11 zk1 fun (x44 : zT1) =>
 mcall P n_zfg [(KV zk1 x43), (KV zk1 x44)] .b fun (x45 : Bool) =>
 mif x45
 (mcall P n_zf3 [] .b fun (x46 : Bool) =>
 R x46)
 (R false))
 (R false))
 (R false))
 (R false))
 (R false)
def zf0_4 (R : Bool → World → Prop) (upto_2 : Int) (g_5 : Addr) (state_11 : Addr) (m_24 : Sl) (f_25 : Int) (s_26 : Addr) (h_27 : Int) : World → Prop :=
 mdraw <|
 ld P zt5 g_5 zk0 fun (x26 : zT0) =>
 fun w => (mcall P n_zfb [(Sl.v m_24), (.int .i64 upto_2)] .sl fun (x27 : Sl) =>
 mst P (Instr.loadAt zt5 (.pointer (some g_5))) (.agg #[.int .i64 x26.1, .int .i64 x26.2.1, .int .i64 x26.2.2.1]) <|
 fun w => (mcall P n_zff [(Sl.v x27)] .sl fun (x28 : Sl) =>
 mst P (Instr.loadAt zt5 (.pointer (some g_5))) (.agg #[.int .i64 x26.1, .int .i64 x26.2.1, .int .i64 x26.2.2.1]) <|
 fun w => (mcall P n_zfe [(KV zk0 x26), (Sl.v x28)] (.tup [zk1, I]) fun (x29 : zT1 × Int × Unit) =>
 alo P zt9 fun a30 =>
 sto P zt9 a30 zk1 x29.1 <|
 zf0_5 R state_11 f_25 s_26 h_27 a30 x29.2.1) w ∧
 (alo P zt9 fun a31 =>
 mst P (Instr.loadAt zt5 (.pointer (some g_5))) (.agg #[.int .i64 x26.1, .int .i64 x26.2.1, .int .i64 x26.2.2.1]) <|
 mcall P n_zfe [(KV zk0 x26), (Sl.v x28)] (.tup [zk1, I]) fun (x32 : zT1 × Int × Unit) =>
 sto P zt9 a31 zk1 x32.1 <|
 zf0_5 R state_11 f_25 s_26 h_27 a31 x32.2.1) w) w ∧
 (alo P zt9 fun a33 =>
 mst P (Instr.loadAt zt5 (.pointer (some g_5))) (.agg #[.int .i64 x26.1, .int .i64 x26.2.1, .int .i64 x26.2.2.1]) <|
 mcall P n_zff [(Sl.v x27)] .sl fun (x34 : Sl) =>
 mst P (Instr.loadAt zt5 (.pointer (some g_5))) (.agg #[.int .i64 x26.1, .int .i64 x26.2.1, .int .i64 x26.2.2.1]) <|
 mcall P n_zfe [(KV zk0 x26), (Sl.v x34)] (.tup [zk1, I]) fun (x35 : zT1 × Int × Unit) =>
 sto P zt9 a33 zk1 x35.1 <|
 zf0_5 R state_11 f_25 s_26 h_27 a33 x35.2.1) w) w ∧
 (alo P zt9 fun a36 =>
 mst P (Instr.loadAt zt5 (.pointer (some g_5))) (.agg #[.int .i64 x26.1, .int .i64 x26.2.1, .int .i64 x26.2.2.1]) <|
 mcall P n_zfb [(Sl.v m_24), (.int .i64 upto_2)] .sl fun (x37 : Sl) =>
 mst P (Instr.loadAt zt5 (.pointer (some g_5))) (.agg #[.int .i64 x26.1, .int .i64 x26.2.1, .int .i64 x26.2.2.1]) <|
 mcall P n_zff [(Sl.v x37)] .sl fun (x38 : Sl) =>
 mst P (Instr.loadAt zt5 (.pointer (some g_5))) (.agg #[.int .i64 x26.1, .int .i64 x26.2.1, .int .i64 x26.2.2.1]) <|
 mcall P n_zfe [(KV zk0 x26), (Sl.v x38)] (.tup [zk1, I]) fun (x39 : zT1 × Int × Unit) =>
 sto P zt9 a36 zk1 x39.1 <|
 zf0_5 R state_11 f_25 s_26 h_27 a36 x39.2.1) w
def zf0_3 (R : Bool → World → Prop) (upto_2 : Int) (fuse_3 : Int) (keep_4 : Sl) (g_5 : Addr) (state_11 : Addr) (all_12 : Sl) (d_22 : Option Addr) : World → Prop :=
 mcall P n_zfa [(.pointer d_22), (.int .i64 ((w64 ((fuse_3.tmod 6) + 6)).tmod 6))] (.tup []) fun (x12 : Unit) =>
 mcall P n_zfb [(Sl.v all_12), (.int .i64 upto_2)] .sl fun (x13 : Sl) =>
 mcall P n_zf9 [(.pointer d_22), (.string ⟨[99, 104, 103].toArray⟩), (Sl.v x13)] I fun (x14 : Int) =>
 mcall P n_zfc [(.pointer d_22), (Sl.v keep_4)] (.tup []) fun (x15 : Unit) =>
 mcall P n_zfd [(.pointer d_22), (.string ⟨[99, 104, 103].toArray⟩)] (.tup [.sl, I]) fun (x16 : Sl × Int × Unit) =>
 mdraw <|
 ld P zt5 g_5 zk0 fun (x17 : zT0) =>
 fun w => (mcall P n_zff [(Sl.v x16.1)] .sl fun (x18 : Sl) =>
 mst P (Instr.loadAt zt5 (.pointer (some g_5))) (.agg #[.int .i64 x17.1, .int .i64 x17.2.1, .int .i64 x17.2.2.1]) <|
 fun w => (mcall P n_zfe [(KV zk0 x17), (Sl.v x18)] (.tup [zk1, I]) fun (x19 : zT1 × Int × Unit) =>
 alo P zt9 fun a20 =>
 sto P zt9 a20 zk1 x19.1 <|
 zf0_4 R upto_2 g_5 state_11 x16.1 x16.2.1 a20 x19.2.1) w ∧
 (alo P zt9 fun a21 =>
 mst P (Instr.loadAt zt5 (.pointer (some g_5))) (.agg #[.int .i64 x17.1, .int .i64 x17.2.1, .int .i64 x17.2.2.1]) <|
 mcall P n_zfe [(KV zk0 x17), (Sl.v x18)] (.tup [zk1, I]) fun (x22 : zT1 × Int × Unit) =>
 sto P zt9 a21 zk1 x22.1 <|
 zf0_4 R upto_2 g_5 state_11 x16.1 x16.2.1 a21 x22.2.1) w) w ∧
 (alo P zt9 fun a23 =>
 mst P (Instr.loadAt zt5 (.pointer (some g_5))) (.agg #[.int .i64 x17.1, .int .i64 x17.2.1, .int .i64 x17.2.2.1]) <|
 mcall P n_zff [(Sl.v x16.1)] .sl fun (x24 : Sl) =>
 mst P (Instr.loadAt zt5 (.pointer (some g_5))) (.agg #[.int .i64 x17.1, .int .i64 x17.2.1, .int .i64 x17.2.2.1]) <|
 mcall P n_zfe [(KV zk0 x17), (Sl.v x24)] (.tup [zk1, I]) fun (x25 : zT1 × Int × Unit) =>
 sto P zt9 a23 zk1 x25.1 <|
 zf0_4 R upto_2 g_5 state_11 x16.1 x16.2.1 a23 x25.2.1) w
def zf0_2 (R : Bool → World → Prop) (upto_2 : Int) (fuse_3 : Int) (keep_4 : Sl) (g_5 : Addr) (state_11 : Addr) (all_12 : Sl) : World → Prop :=
 mcall P n_zf8 [(.int .i64 16384)] (.tup [.p, I]) fun (x8 : Option Addr × Int × Unit) =>
 mif (x8.2.1 != 0)
 (R false)
 (meq P .eql zte (.pointer x8.1) (.pointer none) fun x9 =>
 mif x9
 (R false)
 (mcall P n_zf9 [(.pointer x8.1), (.string ⟨[99, 104, 103].toArray⟩), (Sl.v all_12)] I fun (x10 : Int) =>
 mif (x10 != 0)
 (R false)
 (mif (decide ((keep_4.len : Int) > 50))
 (slc P zt7 keep_4 none (some 50) fun x11 =>
 zf0_3 R upto_2 fuse_3 x11 g_5 state_11 all_12 x8.1)
 (zf0_3 R upto_2 fuse_3 keep_4 g_5 state_11 all_12 x8.1))))
abbrev zf0_q2 (R : Bool → World → Prop) := (thenQ (fun env => getE env zf0_l3 fun (x : Int × Int × Sl × Addr × Addr × Sl × Unit) => zf0_2 R x.1 x.2.1 x.2.2.1 x.2.2.2.1 x.2.2.2.2.1 x.2.2.2.2.2.1) (zf0_q1 R))
abbrev zf0_l7 : Slots := [(1, .sl), (2, I), (3, I), (4, .sl), (5, .ad), (11, .ad), (12, .sl)]
abbrev zf0_l8 : Slots := [(12, .sl), (13, I)]
abbrev zf0_l9 : Slots := [(1, .sl), (2, I), (3, I), (4, .sl), (5, .ad), (11, .ad)]
abbrev zf0_q3 (c1 : (Sl × Int × Unit) → (Sl × Int × Int × Sl × Addr × Addr × Unit) → World → Prop) (R : Bool → World → Prop) := (thenQ (fun env => getE env zf0_l8 fun (s : Sl × Int × Unit) => getE env zf0_l9 (c1 s)) (blockQ 0 ((zf0_q2 R) .normal) (zf0_q2 R)))
abbrev zf0_l10 : Slots := [(1, .sl), (2, I), (3, I), (4, .sl), (5, .ad), (11, .ad), (12, .sl), (13, I)]
abbrev zf0_l11 : Slots := [(1, .sl), (2, I), (3, I), (4, .sl), (5, .ad), (11, .ad), (12, .sl), (13, I)]
def zf0_10 (c1 : (Sl × Int × Unit) → (Sl × Int × Int × Sl × Addr × Addr × Unit) → World → Prop) (R : Bool → World → Prop) (l_1 : Sl) (upto_2 : Int) (fuse_3 : Int) (keep_4 : Sl) (g_5 : Addr) (state_11 : Addr) (all_12 : Sl) (i_13 : Int) : World → Prop :=
 c1 (all_12, w64 (i_13 + 1), ()) (l_1, upto_2, fuse_3, keep_4, g_5, state_11, ())
abbrev zf0_q4 (c1 : (Sl × Int × Unit) → (Sl × Int × Int × Sl × Addr × Addr × Unit) → World → Prop) (R : Bool → World → Prop) := (thenQ (fun env => getE env zf0_l11 fun (x : Sl × Int × Int × Sl × Addr × Addr × Sl × Int × Unit) => zf0_10 c1 R x.1 x.2.1 x.2.2.1 x.2.2.2.1 x.2.2.2.2.1 x.2.2.2.2.2.1 x.2.2.2.2.2.2.1 x.2.2.2.2.2.2.2.1) (zf0_q3 c1 R))
abbrev zf0_q5 (c1 : (Sl × Int × Unit) → (Sl × Int × Int × Sl × Addr × Addr × Unit) → World → Prop) (R : Bool → World → Prop) := (blockQ 1 ((zf0_q4 c1 R) .normal) (zf0_q4 c1 R))
abbrev zf0_l12 : Slots := [(1, .sl), (2, I), (3, I), (4, .sl), (5, .ad), (11, .ad), (12, .sl), (13, I)]
abbrev zf0_l13 : Slots := [(1, .sl), (2, I), (3, I), (4, .sl), (5, .ad), (11, .ad), (12, .sl), (13, I), (14, .ad), (16, I)]
abbrev zf0_l14 : Slots := [(1, .sl), (2, I), (3, I), (4, .sl), (5, .ad), (11, .ad), (12, .sl), (13, I), (14, .ad), (16, I)]
abbrev zf0_l15 : Slots := [(1, .sl), (2, I), (3, I), (4, .sl), (5, .ad), (11, .ad), (12, .sl), (13, I), (14, .ad), (20, .sl)]
abbrev zf0_l16 : Slots := [(1, .sl), (2, I), (3, I), (4, .sl), (5, .ad), (11, .ad), (12, .sl), (13, I), (14, .ad)]
def zf0_15 (c1 : (Sl × Int × Unit) → (Sl × Int × Int × Sl × Addr × Addr × Unit) → World → Prop) (R : Bool → World → Prop) (l_1 : Sl) (upto_2 : Int) (fuse_3 : Int) (keep_4 : Sl) (g_5 : Addr) (state_11 : Addr) (all_12 : Sl) (i_13 : Int) (s_14 : Addr) : World → Prop :=
 ld P zt9 s_14 zk1 fun (x66 : zT1) =>
 sto P zt9 state_11 zk1 x66 <|
 zf0_10 c1 R l_1 upto_2 fuse_3 keep_4 g_5 state_11 all_12 i_13
abbrev zf0_q6 (c1 : (Sl × Int × Unit) → (Sl × Int × Int × Sl × Addr × Addr × Unit) → World → Prop) (R : Bool → World → Prop) := (thenQ (fun env => getE env zf0_l16 fun (x : Sl × Int × Int × Sl × Addr × Addr × Sl × Int × Addr × Unit) => zf0_15 c1 R x.1 x.2.1 x.2.2.1 x.2.2.2.1 x.2.2.2.2.1 x.2.2.2.2.2.1 x.2.2.2.2.2.2.1 x.2.2.2.2.2.2.2.1 x.2.2.2.2.2.2.2.2.1) (zf0_q5 c1 R))
abbrev zf0_l17 : Slots := [(1, .sl), (2, I), (3, I), (4, .sl), (5, .ad), (11, .ad), (12, .sl), (13, I), (14, .ad), (20, .sl)]
abbrev zf0_l18 : Slots := [(12, .sl), (21, I)]
abbrev zf0_l19 : Slots := [(1, .sl), (2, I), (3, I), (4, .sl), (5, .ad), (11, .ad), (13, I), (14, .ad), (20, .sl)]
abbrev zf0_q7 (c2 : (Sl × Int × Unit) → (Sl × Int × Int × Sl × Addr × Addr × Int × Addr × Sl × Unit) → World → Prop) (c1 : (Sl × Int × Unit) → (Sl × Int × Int × Sl × Addr × Addr × Unit) → World → Prop) (R : Bool → World → Prop) := (thenQ (fun env => getE env zf0_l18 fun (s : Sl × Int × Unit) => getE env zf0_l19 (c2 s)) (blockQ 2 ((zf0_q6 c1 R) .normal) (zf0_q6 c1 R)))
def zf0_18 (c2 : (Sl × Int × Unit) → (Sl × Int × Int × Sl × Addr × Addr × Int × Addr × Sl × Unit) → World → Prop) (c1 : (Sl × Int × Unit) → (Sl × Int × Int × Sl × Addr × Addr × Unit) → World → Prop) (R : Bool → World → Prop) (all_12 : Sl) (k_21 : Int) (l_1 : Sl) (upto_2 : Int) (fuse_3 : Int) (keep_4 : Sl) (g_5 : Addr) (state_11 : Addr) (i_13 : Int) (s_14 : Addr) (m_20 : Sl) : World → Prop :=
 mif (decide (k_21 < (m_20.len : Int)))
 (ixa P zt6 (Sl.v m_20) k_21 fun x67 =>
 ld P ztc x67 zk2 fun (x68 : zT2) =>
 bsl P zta zk3 [((all_12.len : Int), x68, ())] fun x69 =>
 app P #[zta, zta] zta (Sl.v all_12) (Sl.v x69) fun x70 =>
 c2 (x70, w64 (k_21 + 1), ()) (l_1, upto_2, fuse_3, keep_4, g_5, state_11, i_13, s_14, m_20, ()))
 (zf0_15 c1 R l_1 upto_2 fuse_3 keep_4 g_5 state_11 all_12 i_13 s_14)
def zf0_17 (c1 : (Sl × Int × Unit) → (Sl × Int × Int × Sl × Addr × Addr × Unit) → World → Prop) (R : Bool → World → Prop) (all_12 : Sl) (k_21 : Int) (l_1 : Sl) (upto_2 : Int) (fuse_3 : Int) (keep_4 : Sl) (g_5 : Addr) (state_11 : Addr) (i_13 : Int) (s_14 : Addr) (m_20 : Sl) : World → Prop :=
 W.Loop (l_1, upto_2, fuse_3, keep_4, g_5, state_11, i_13, s_14, m_20, ()) (fun (c2 : (Sl × Int × Unit) → (Sl × Int × Int × Sl × Addr × Addr × Int × Addr × Sl × Unit) → World → Prop) (s : Sl × Int × Unit) => zf0_18 c2 c1 R s.1 s.2.1 l_1 upto_2 fuse_3 keep_4 g_5 state_11 i_13 s_14 m_20) (all_12, k_21, ())
def zf0_16 (c1 : (Sl × Int × Unit) → (Sl × Int × Int × Sl × Addr × Addr × Unit) → World → Prop) (R : Bool → World → Prop) (l_1 : Sl) (upto_2 : Int) (fuse_3 : Int) (keep_4 : Sl) (g_5 : Addr) (state_11 : Addr) (all_12 : Sl) (i_13 : Int) (s_14 : Addr) (m_20 : Sl) : World → Prop :=
 zf0_17 c1 R all_12 0 l_1 upto_2 fuse_3 keep_4 g_5 state_11 i_13 s_14 m_20
def zf0_14 (c1 : (Sl × Int × Unit) → (Sl × Int × Int × Sl × Addr × Addr × Unit) → World → Prop) (R : Bool → World → Prop) (l_1 : Sl) (upto_2 : Int) (fuse_3 : Int) (keep_4 : Sl) (g_5 : Addr) (state_11 : Addr) (all_12 : Sl) (i_13 : Int) (s_14 : Addr) (m_20 : Sl) : World → Prop :=
 zf0_16 c1 R l_1 upto_2 fuse_3 keep_4 g_5 state_11 all_12 i_13 s_14 m_20
def zf0_13 (c1 : (Sl × Int × Unit) → (Sl × Int × Int × Sl × Addr × Addr × Unit) → World → Prop) (R : Bool → World → Prop) (l_1 : Sl) (upto_2 : Int) (fuse_3 : Int) (keep_4 : Sl) (g_5 : Addr) (state_11 : Addr) (all_12 : Sl) (i_13 : Int) (s_14 : Addr) (e_16 : Int) : World → Prop :=
 mif (e_16 != 0)
 (zf0_10 c1 R l_1 upto_2 fuse_3 keep_4 g_5 state_11 all_12 i_13)
 (ld P zt9 state_11 zk1 fun (x63 : zT1) =>
 ld P zt9 s_14 zk1 fun (x64 : zT1) =>
 mcall P n_zf7 [(KV zk1 x63), (KV zk1 x64)] .sl fun (x65 : Sl) =>
 zf0_14 c1 R l_1 upto_2 fuse_3 keep_4 g_5 state_11 all_12 i_13 s_14 x65)
def zf0_12 (c1 : (Sl × Int × Unit) → (Sl × Int × Int × Sl × Addr × Addr × Unit) → World → Prop) (R : Bool → World → Prop) (l_1 : Sl) (upto_2 : Int) (fuse_3 : Int) (keep_4 : Sl) (g_5 : Addr) (state_11 : Addr) (all_12 : Sl) (i_13 : Int) (s_14 : Addr) (e_16 : Int) : World → Prop :=
 mdraw <|
 ld P zt5 g_5 zk0 fun (x55 : zT0) =>
 ld P zt9 state_11 zk1 fun (x56 : zT1) =>
 ixa P zt6 (Sl.v l_1) i_13 fun x57 =>
 ld P ztc x57 zk2 fun (x58 : zT2) =>
 fun w => (mcall P n_zf6 [(KV zk0 x55), (KV zk1 x56), (KV zk2 x58)] (.tup [zk1, .sl, I]) fun (x59 : zT1 × Sl × Int × Unit) =>
 alo P zt9 fun a60 =>
 sto P zt9 a60 zk1 x59.1 <|
 mif (x59.2.2.1 != e_16)
 (R false)
 (zf0_13 c1 R l_1 upto_2 fuse_3 keep_4 g_5 state_11 all_12 i_13 s_14 e_16)) w ∧
 (alo P zt9 fun a61 =>
 mst P (Instr.loadAt ztc (.pointer (some x57))) (.agg #[.int .i64 x58.1, .int .i64 x58.2.1, .string ⟨x58.2.2.1.toArray⟩]) <|
 mst P (Instr.indexAt zt6 (.slice l_1.a l_1.len l_1.cap) (.int .i64 i_13)) (.pointer (some x57)) <|
 mst P (Instr.loadAt zt9 (.pointer (some state_11))) (.agg #[.int .i64 x56.1, .int .i64 x56.2.1, .int .i64 x56.2.2.1, .int .i64 x56.2.2.2.1, .slice x56.2.2.2.2.1.a x56.2.2.2.2.1.len x56.2.2.2.2.1.cap]) <|
 mst P (Instr.loadAt zt5 (.pointer (some g_5))) (.agg #[.int .i64 x55.1, .int .i64 x55.2.1, .int .i64 x55.2.2.1]) <|
 mcall P n_zf6 [(KV zk0 x55), (KV zk1 x56), (KV zk2 x58)] (.tup [zk1, .sl, I]) fun (x62 : zT1 × Sl × Int × Unit) =>
 sto P zt9 a61 zk1 x62.1 <|
 mif (x62.2.2.1 != e_16)
 (R false)
 (zf0_13 c1 R l_1 upto_2 fuse_3 keep_4 g_5 state_11 all_12 i_13 s_14 e_16)) w
def zf0_11 (c1 : (Sl × Int × Unit) → (Sl × Int × Int × Sl × Addr × Addr × Unit) → World → Prop) (R : Bool → World → Prop) (l_1 : Sl) (upto_2 : Int) (fuse_3 : Int) (keep_4 : Sl) (g_5 : Addr) (state_11 : Addr) (all_12 : Sl) (i_13 : Int) : World → Prop :=
 mdraw <|
 ld P zt5 g_5 zk0 fun (x47 : zT0) =>
 ld P zt9 state_11 zk1 fun (x48 : zT1) =>
 ixa P zt6 (Sl.v l_1) i_13 fun x49 =>
 ld P ztc x49 zk2 fun (x50 : zT2) =>
 fun w => (mcall P n_zf5 [(KV zk0 x47), (KV zk1 x48), (KV zk2 x50)] (.tup [zk1, .sl, I]) fun (x51 : zT1 × Sl × Int × Unit) =>
 alo P zt9 fun a52 =>
 sto P zt9 a52 zk1 x51.1 <|
 zf0_12 c1 R l_1 upto_2 fuse_3 keep_4 g_5 state_11 all_12 i_13 a52 x51.2.2.1) w ∧
 (alo P zt9 fun a53 =>
 mst P (Instr.loadAt ztc (.pointer (some x49))) (.agg #[.int .i64 x50.1, .int .i64 x50.2.1, .string ⟨x50.2.2.1.toArray⟩]) <|
 mst P (Instr.indexAt zt6 (.slice l_1.a l_1.len l_1.cap) (.int .i64 i_13)) (.pointer (some x49)) <|
 mst P (Instr.loadAt zt9 (.pointer (some state_11))) (.agg #[.int .i64 x48.1, .int .i64 x48.2.1, .int .i64 x48.2.2.1, .int .i64 x48.2.2.2.1, .slice x48.2.2.2.2.1.a x48.2.2.2.2.1.len x48.2.2.2.2.1.cap]) <|
 mst P (Instr.loadAt zt5 (.pointer (some g_5))) (.agg #[.int .i64 x47.1, .int .i64 x47.2.1, .int .i64 x47.2.2.1]) <|
 mcall P n_zf5 [(KV zk0 x47), (KV zk1 x48), (KV zk2 x50)] (.tup [zk1, .sl, I]) fun (x54 : zT1 × Sl × Int × Unit) =>
 sto P zt9 a53 zk1 x54.1 <|
 zf0_12 c1 R l_1 upto_2 fuse_3 keep_4 g_5 state_11 all_12 i_13 a53 x54.2.2.1) w
def zf0_9 (c1 : (Sl × Int × Unit) → (Sl × Int × Int × Sl × Addr × Addr × Unit) → World → Prop) (R : Bool → World → Prop) (l_1 : Sl) (upto_2 : Int) (fuse_3 : Int) (keep_4 : Sl) (g_5 : Addr) (state_11 : Addr) (all_12 : Sl) (i_13 : Int) : World → Prop :=
 zf0_11 c1 R l_1 upto_2 fuse_3 keep_4 g_5 state_11 all_12 i_13
def zf0_8 (c1 : (Sl × Int × Unit) → (Sl × Int × Int × Sl × Addr × Addr × Unit) → World → Prop) (R : Bool → World → Prop) (all_12 : Sl) (i_13 : Int) (l_1 : Sl) (upto_2 : Int) (fuse_3 : Int) (keep_4 : Sl) (g_5 : Addr) (state_11 : Addr) : World → Prop :=
 mif (decide (i_13 < (l_1.len : Int)))
 (mif (decide ((all_12.len : Int) < 3000))
 (zf0_9 c1 R l_1 upto_2 fuse_3 keep_4 g_5 state_11 all_12 i_13)
 (zf0_2 R upto_2 fuse_3 keep_4 g_5 state_11 all_12))
 (zf0_2 R upto_2 fuse_3 keep_4 g_5 state_11 all_12)
def zf0_7 (R : Bool → World → Prop) (all_12 : Sl) (i_13 : Int) (l_1 : Sl) (upto_2 : Int) (fuse_3 : Int) (keep_4 : Sl) (g_5 : Addr) (state_11 : Addr) : World → Prop :=
 W.Loop (l_1, upto_2, fuse_3, keep_4, g_5, state_11, ()) (fun (c1 : (Sl × Int × Unit) → (Sl × Int × Int × Sl × Addr × Addr × Unit) → World → Prop) (s : Sl × Int × Unit) => zf0_8 c1 R s.1 s.2.1 l_1 upto_2 fuse_3 keep_4 g_5 state_11) (all_12, i_13, ())
def zf0_6 (R : Bool → World → Prop) (l_1 : Sl) (upto_2 : Int) (fuse_3 : Int) (keep_4 : Sl) (g_5 : Addr) (state_11 : Addr) (all_12 : Sl) : World → Prop :=
 zf0_7 R all_12 0 l_1 upto_2 fuse_3 keep_4 g_5 state_11
def zf0_1 (R : Bool → World → Prop) (l_1 : Sl) (upto_2 : Int) (fuse_3 : Int) (keep_4 : Sl) (g_5 : Addr) (state_11 : Addr) (all_12 : Sl) : World → Prop :=
 zf0_6 R l_1 upto_2 fuse_3 keep_4 g_5 state_11 all_12
def zf0_0 (R : Bool → World → Prop) (g_0 : zT0) (l_1 : Sl) (upto_2 : Int) (fuse_3 : Int) (keep_4 : Sl) : World → Prop :=
 bx P zt5 zk0 g_0 fun a1 =>
 mcall P n_zf1 [(Sl.v l_1)] .sl fun (x2 : Sl) =>
 ld P zt5 a1 zk0 fun (x3 : zT0) =>
 mcall P n_zf2 [(KV zk0 x3), (KV zk1 ((-1), 0, 0, 0, ⟨none, 0, 0⟩, ()))] .b fun (x4 : Bool) =>
 mif (!x4)
 (mcall P n_zf3 [] .b fun (x5 : Bool) =>
 R x5)
 (mcall P n_zf4 [] zk1 fun (x6 : zT1) =>
 alo P zt9 fun a7 =>
 sto P zt9 a7 zk1 x6 <|
 zf0_1 R x2 upto_2 fuse_3 keep_4 a1 a7 ⟨none, 0, 0⟩)
theorem zf0_5_ok (R : Bool → World → Prop) (x : Addr × Int × Addr × Int × Addr × Int × Unit) (w : World) (h : zf0_5 R x.1 x.2.1 x.2.2.1 x.2.2.2.1 x.2.2.2.2.1 x.2.2.2.2.2.1 w) : WPC P 175 [] (Code.at zf0_B [.snd, .snd, .snd, .snd, .snd, .snd, .snd, .snd, .snd, .snd, .snd, .snd, .snd, .snd, .snd]) (zf0_q1 R) (mkE 175 zf0_l6 x) w :=
  pc_end h
theorem zf0_4_ok (R : Bool → World → Prop) (x : Int × Addr × Addr × Sl × Int × Addr × Int × Unit) (w : World) (h : zf0_4 R x.1 x.2.1 x.2.2.1 x.2.2.2.1 x.2.2.2.2.1 x.2.2.2.2.2.1 x.2.2.2.2.2.2.1 w) : WPC P 175 [] (Code.at zf0_B [.snd, .snd, .snd, .snd, .snd, .snd, .snd, .snd, .snd, .snd, .snd, .snd, .snd, .snd]) (zf0_q1 R) (mkE 175 zf0_l5 x) w :=
  pc_cut (l := zf0_l6) 1 (zf0_5_ok R) h
theorem zf0_3_ok (R : Bool → World → Prop) (x : Int × Int × Sl × Addr × Addr × Sl × Option Addr × Unit) (w : World) (h : zf0_3 R x.1 x.2.1 x.2.2.1 x.2.2.2.1 x.2.2.2.2.1 x.2.2.2.2.2.1 x.2.2.2.2.2.2.1 w) : WPC P 175 [] (Code.at zf0_B [.snd, .snd, .snd, .snd, .snd, .snd, .snd, .snd, .snd]) (zf0_q1 R) (mkE 175 zf0_l4 x) w :=
  pc_cut (l := zf0_l5) 5 (zf0_4_ok R) h
theorem zf0_2_ok (R : Bool → World → Prop) (x : Int × Int × Sl × Addr × Addr × Sl × Unit) (w : World) (h : zf0_2 R x.1 x.2.1 x.2.2.1 x.2.2.2.1 x.2.2.2.2.1 x.2.2.2.2.2.1 w) : WPC P 175 [] (Code.at zf0_B [.snd, .snd, .snd, .snd, .snd, .snd]) (zf0_q1 R) (mkE 175 zf0_l3 x) w :=
  pc_cut (l := zf0_l4) 3 (zf0_3_ok R) h
theorem zf0_10_ok (c1 : (Sl × Int × Unit) → (Sl × Int × Int × Sl × Addr × Addr × Unit) → World → Prop) (R : Bool → World → Prop) (x : Sl × Int × Int × Sl × Addr × Addr × Sl × Int × Unit) (w : World) (h : zf0_10 c1 R x.1 x.2.1 x.2.2.1 x.2.2.2.1 x.2.2.2.2.1 x.2.2.2.2.2.1 x.2.2.2.2.2.2.1 x.2.2.2.2.2.2.2.1 w) : WPC P 175 [] (Code.at zf0_B [.snd, .snd, .snd, .snd, .snd, .fst, .snd, .blk, .blk, .snd, .snd]) (zf0_q3 c1 R) (mkE 175 zf0_l11 x) w :=
  pc_end h
theorem zf0_15_ok (c1 : (Sl × Int × Unit) → (Sl × Int × Int × Sl × Addr × Addr × Unit) → World → Prop) (R : Bool → World → Prop) (x : Sl × Int × Int × Sl × Addr × Addr × Sl × Int × Addr × Unit) (w : World) (h : zf0_15 c1 R x.1 x.2.1 x.2.2.1 x.2.2.2.1 x.2.2.2.2.1 x.2.2.2.2.2.1 x.2.2.2.2.2.2.1 x.2.2.2.2.2.2.2.1 x.2.2.2.2.2.2.2.2.1 w) : WPC P 175 [] (Code.at zf0_B [.snd, .snd, .snd, .snd, .snd, .fst, .snd, .blk, .blk, .snd, .fst, .blk, .snd, .snd, .snd, .snd, .snd]) (zf0_q5 c1 R) (mkE 175 zf0_l16 x) w :=
  pc_end h
theorem zf0_18_ok (c2 : (Sl × Int × Unit) → (Sl × Int × Int × Sl × Addr × Addr × Int × Addr × Sl × Unit) → World → Prop) (c1 : (Sl × Int × Unit) → (Sl × Int × Int × Sl × Addr × Addr × Unit) → World → Prop) (R : Bool → World → Prop) (x : Sl × Int × Unit) (y : Sl × Int × Int × Sl × Addr × Addr × Int × Addr × Sl × Unit) (w : World) (h : zf0_18 c2 c1 R x.1 x.2.1 y.1 y.2.1 y.2.2.1 y.2.2.2.1 y.2.2.2.2.1 y.2.2.2.2.2.1 y.2.2.2.2.2.2.1 y.2.2.2.2.2.2.2.1 y.2.2.2.2.2.2.2.2.1 w) : WPC P 175 [] (Code.at zf0_B [.snd, .snd, .snd, .snd, .snd, .fst, .snd, .blk, .blk, .snd, .fst, .blk, .snd, .snd, .snd, .snd, .fst, .snd, .blk, .blk]) (zf0_q7 c2 c1 R) (mkE2 175 zf0_l18 zf0_l19 x y) w :=
  pc_end h
theorem zf0_17_ok (c1 : (Sl × Int × Unit) → (Sl × Int × Int × Sl × Addr × Addr × Unit) → World → Prop) (R : Bool → World → Prop) (x : Sl × Int × Unit) (y : Sl × Int × Int × Sl × Addr × Addr × Int × Addr × Sl × Unit) (w : World) (h : zf0_17 c1 R x.1 x.2.1 y.1 y.2.1 y.2.2.1 y.2.2.2.1 y.2.2.2.2.1 y.2.2.2.2.2.1 y.2.2.2.2.2.2.1 y.2.2.2.2.2.2.2.1 y.2.2.2.2.2.2.2.2.1 w) : WPC P 175 [] (Code.at zf0_B [.snd, .snd, .snd, .snd, .snd, .fst, .snd, .blk, .blk, .snd, .fst, .blk, .snd, .snd, .snd, .snd, .fst, .snd]) (zf0_q6 c1 R) (mkE2 175 zf0_l18 zf0_l19 x y) w :=
  pc_loopE (l := zf0_l18) (l' := zf0_l19) (id := 2) (b := (Code.at zf0_B [.snd, .snd, .snd, .snd, .snd, .fst, .snd, .blk, .blk, .snd, .fst, .blk, .snd, .snd, .snd, .snd, .fst, .snd, .blk, .blk])) (fun c2 s => zf0_18_ok c2 c1 R s y) h
theorem zf0_16_ok (c1 : (Sl × Int × Unit) → (Sl × Int × Int × Sl × Addr × Addr × Unit) → World → Prop) (R : Bool → World → Prop) (x : Sl × Int × Int × Sl × Addr × Addr × Sl × Int × Addr × Sl × Unit) (w : World) (h : zf0_16 c1 R x.1 x.2.1 x.2.2.1 x.2.2.2.1 x.2.2.2.2.1 x.2.2.2.2.2.1 x.2.2.2.2.2.2.1 x.2.2.2.2.2.2.2.1 x.2.2.2.2.2.2.2.2.1 x.2.2.2.2.2.2.2.2.2.1 w) : WPC P 175 [] (Code.at zf0_B [.snd, .snd, .snd, .snd, .snd, .fst, .snd, .blk, .blk, .snd, .fst, .blk, .snd, .snd, .snd, .snd, .fst]) (zf0_q6 c1 R) (mkE 175 zf0_l17 x) w :=
  pc_cut2 (l := zf0_l18) (l' := zf0_l19) 1 (zf0_17_ok c1 R) h
theorem zf0_14_ok (c1 : (Sl × Int × Unit) → (Sl × Int × Int × Sl × Addr × Addr × Unit) → World → Prop) (R : Bool → World → Prop) (x : Sl × Int × Int × Sl × Addr × Addr × Sl × Int × Addr × Sl × Unit) (w : World) (h : zf0_14 c1 R x.1 x.2.1 x.2.2.1 x.2.2.2.1 x.2.2.2.2.1 x.2.2.2.2.2.1 x.2.2.2.2.2.2.1 x.2.2.2.2.2.2.2.1 x.2.2.2.2.2.2.2.2.1 x.2.2.2.2.2.2.2.2.2.1 w) : WPC P 175 [] (Code.at zf0_B [.snd, .snd, .snd, .snd, .snd, .fst, .snd, .blk, .blk, .snd, .fst, .blk, .snd, .snd, .snd, .snd]) (zf0_q5 c1 R) (mkE 175 zf0_l15 x) w :=
  pc_seq (l := zf0_l16) (a := (Code.at zf0_B [.snd, .snd, .snd, .snd, .snd, .fst, .snd, .blk, .blk, .snd, .fst, .blk, .snd, .snd, .snd, .snd, .fst])) (b := (Code.at zf0_B [.snd, .snd, .snd, .snd, .snd, .fst, .snd, .blk, .blk, .snd, .fst, .blk, .snd, .snd, .snd, .snd, .snd])) (pc_cut (l := zf0_l17) (c := (Code.at zf0_B [.snd, .snd, .snd, .snd, .snd, .fst, .snd, .blk, .blk, .snd, .fst, .blk, .snd, .snd, .snd, .snd, .fst])) 0 (zf0_16_ok c1 R) h) (zf0_15_ok c1 R)
theorem zf0_13_ok (c1 : (Sl × Int × Unit) → (Sl × Int × Int × Sl × Addr × Addr × Unit) → World → Prop) (R : Bool → World → Prop) (x : Sl × Int × Int × Sl × Addr × Addr × Sl × Int × Addr × Int × Unit) (w : World) (h : zf0_13 c1 R x.1 x.2.1 x.2.2.1 x.2.2.2.1 x.2.2.2.2.1 x.2.2.2.2.2.1 x.2.2.2.2.2.2.1 x.2.2.2.2.2.2.2.1 x.2.2.2.2.2.2.2.2.1 x.2.2.2.2.2.2.2.2.2.1 w) : WPC P 175 [] (Code.at zf0_B [.snd, .snd, .snd, .snd, .snd, .fst, .snd, .blk, .blk, .snd, .fst, .blk, .snd, .snd]) (zf0_q5 c1 R) (mkE 175 zf0_l14 x) w :=
  pc_cut (l := zf0_l15) 2 (zf0_14_ok c1 R) h
theorem zf0_12_ok (c1 : (Sl × Int × Unit) → (Sl × Int × Int × Sl × Addr × Addr × Unit) → World → Prop) (R : Bool → World → Prop) (x : Sl × Int × Int × Sl × Addr × Addr × Sl × Int × Addr × Int × Unit) (w : World) (h : zf0_12 c1 R x.1 x.2.1 x.2.2.1 x.2.2.2.1 x.2.2.2.2.1 x.2.2.2.2.2.1 x.2.2.2.2.2.2.1 x.2.2.2.2.2.2.2.1 x.2.2.2.2.2.2.2.2.1 x.2.2.2.2.2.2.2.2.2.1 w) : WPC P 175 [] (Code.at zf0_B [.snd, .snd, .snd, .snd, .snd, .fst, .snd, .blk, .blk, .snd, .fst, .blk, .snd]) (zf0_q5 c1 R) (mkE 175 zf0_l13 x) w :=
  pc_cut (l := zf0_l14) 1 (zf0_13_ok c1 R) h
theorem zf0_11_ok (c1 : (Sl × Int × Unit) → (Sl × Int × Int × Sl × Addr × Addr × Unit) → World → Prop) (R : Bool → World → Prop) (x : Sl × Int × Int × Sl × Addr × Addr × Sl × Int × Unit) (w : World) (h : zf0_11 c1 R x.1 x.2.1 x.2.2.1 x.2.2.2.1 x.2.2.2.2.1 x.2.2.2.2.2.1 x.2.2.2.2.2.2.1 x.2.2.2.2.2.2.2.1 w) : WPC P 175 [] (Code.at zf0_B [.snd, .snd, .snd, .snd, .snd, .fst, .snd, .blk, .blk, .snd, .fst, .blk]) (zf0_q5 c1 R) (mkE 175 zf0_l12 x) w :=
  pc_cut (l := zf0_l13) 1 (zf0_12_ok c1 R) h
theorem zf0_9_ok (c1 : (Sl × Int × Unit) → (Sl × Int × Int × Sl × Addr × Addr × Unit) → World → Prop) (R : Bool → World → Prop) (x : Sl × Int × Int × Sl × Addr × Addr × Sl × Int × Unit) (w : World) (h : zf0_9 c1 R x.1 x.2.1 x.2.2.1 x.2.2.2.1 x.2.2.2.2.1 x.2.2.2.2.2.1 x.2.2.2.2.2.2.1 x.2.2.2.2.2.2.2.1 w) : WPC P 175 [] (Code.at zf0_B [.snd, .snd, .snd, .snd, .snd, .fst, .snd, .blk, .blk, .snd]) (zf0_q3 c1 R) (mkE 175 zf0_l10 x) w :=
  pc_seq (l := zf0_l11) (a := (Code.at zf0_B [.snd, .snd, .snd, .snd, .snd, .fst, .snd, .blk, .blk, .snd, .fst])) (b := (Code.at zf0_B [.snd, .snd, .snd, .snd, .snd, .fst, .snd, .blk, .blk, .snd, .snd])) (pc_block (c := (Code.at zf0_B [.snd, .snd, .snd, .snd, .snd, .fst, .snd, .blk, .blk, .snd, .fst, .blk])) (id := 1) (pc_cut (l := zf0_l12) (c := (Code.at zf0_B [.snd, .snd, .snd, .snd, .snd, .fst, .snd, .blk, .blk, .snd, .fst, .blk])) 0 (zf0_11_ok c1 R) h)) (zf0_10_ok c1 R)
theorem zf0_8_ok (c1 : (Sl × Int × Unit) → (Sl × Int × Int × Sl × Addr × Addr × Unit) → World → Prop) (R : Bool → World → Prop) (x : Sl × Int × Unit) (y : Sl × Int × Int × Sl × Addr × Addr × Unit) (w : World) (h : zf0_8 c1 R x.1 x.2.1 y.1 y.2.1 y.2.2.1 y.2.2.2.1 y.2.2.2.2.1 y.2.2.2.2.2.1 w) : WPC P 175 [] (Code.at zf0_B [.snd, .snd, .snd, .snd, .snd, .fst, .snd, .blk, .blk]) (zf0_q3 c1 R) (mkE2 175 zf0_l8 zf0_l9 x y) w :=
  pc_cut (l := zf0_l10) 1 (zf0_9_ok c1 R) h
theorem zf0_7_ok (R : Bool → World → Prop) (x : Sl × Int × Unit) (y : Sl × Int × Int × Sl × Addr × Addr × Unit) (w : World) (h : zf0_7 R x.1 x.2.1 y.1 y.2.1 y.2.2.1 y.2.2.2.1 y.2.2.2.2.1 y.2.2.2.2.2.1 w) : WPC P 175 [] (Code.at zf0_B [.snd, .snd, .snd, .snd, .snd, .fst, .snd]) (zf0_q2 R) (mkE2 175 zf0_l8 zf0_l9 x y) w :=
  pc_loopE (l := zf0_l8) (l' := zf0_l9) (id := 0) (b := (Code.at zf0_B [.snd, .snd, .snd, .snd, .snd, .fst, .snd, .blk, .blk])) (fun c1 s => zf0_8_ok c1 R s y) h
theorem zf0_6_ok (R : Bool → World → Prop) (x : Sl × Int × Int × Sl × Addr × Addr × Sl × Unit) (w : World) (h : zf0_6 R x.1 x.2.1 x.2.2.1 x.2.2.2.1 x.2.2.2.2.1 x.2.2.2.2.2.1 x.2.2.2.2.2.2.1 w) : WPC P 175 [] (Code.at zf0_B [.snd, .snd, .snd, .snd, .snd, .fst]) (zf0_q2 R) (mkE 175 zf0_l7 x) w :=
  pc_cut2 (l := zf0_l8) (l' := zf0_l9) 1 (zf0_7_ok R) h
theorem zf0_1_ok (R : Bool → World → Prop) (x : Sl × Int × Int × Sl × Addr × Addr × Sl × Unit) (w : World) (h : zf0_1 R x.1 x.2.1 x.2.2.1 x.2.2.2.1 x.2.2.2.2.1 x.2.2.2.2.2.1 x.2.2.2.2.2.2.1 w) : WPC P 175 [] (Code.at zf0_B [.snd, .snd, .snd, .snd, .snd]) (zf0_q1 R) (mkE 175 zf0_l2 x) w :=
  pc_seq (l := zf0_l3) (a := (Code.at zf0_B [.snd, .snd, .snd, .snd, .snd, .fst])) (b := (Code.at zf0_B [.snd, .snd, .snd, .snd, .snd, .snd])) (pc_cut (l := zf0_l7) (c := (Code.at zf0_B [.snd, .snd, .snd, .snd, .snd, .fst])) 0 (zf0_6_ok R) h) (zf0_2_ok R)
theorem zf0_0_ok (R : Bool → World → Prop) (x : zT0 × Sl × Int × Int × Sl × Unit) (w : World) (h : zf0_0 R x.1 x.2.1 x.2.2.1 x.2.2.2.1 x.2.2.2.2.1 w) : WPC P 175 [] (Code.at zf0_B []) (zf0_q1 R) (mkE 175 zf0_l1 x) w :=
  pc_cut (l := zf0_l2) 5 (zf0_1_ok R) h
theorem zf0_call (R : Bool → World → Prop) (g_0 : zT0) (l_1 : Sl) (upto_2 : Int) (fuse_3 : Int) (keep_4 : Sl) (w : World) (h : zf0_0 R g_0 l_1 upto_2 fuse_3 keep_4 w) : mcall P n_zf0 [(KV zk0 g_0), (Sl.v l_1), (.int .i64 upto_2), (.int .i64 fuse_3), (Sl.v keep_4)] .b R w :=
  pc_top (l := zf0_l1) (c := zf0_B) Tryz.func3 (zf0_0_ok R) h
noncomputable abbrev zf1_B : Code := (Tryz.f4.body).getD .skip
abbrev zf1_q1 (R : Sl → World → Prop) := (topQ P [.tmp 2] .sl R)
abbrev zf1_l1 : Slots := [(0, .sl)]
abbrev zf1_l2 : Slots := [(0, .sl)]
abbrev zf1_l3 : Slots := [(0, .sl), (3, .sl)]
abbrev zf1_l4 : Slots := [(3, .sl)]
def zf1_3 (R : Sl → World → Prop) (out_3 : Sl) : World → Prop :=
 R out_3
abbrev zf1_q2 (R : Sl → World → Prop) := (thenQ (fun env => getE env zf1_l4 fun (x : Sl × Unit) => zf1_3 R x.1) (zf1_q1 R))
abbrev zf1_l5 : Slots := [(0, .sl), (3, .sl)]
abbrev zf1_l6 : Slots := [(3, .sl), (4, I)]
abbrev zf1_l7 : Slots := [(0, .sl)]
abbrev zf1_q3 (c1 : (Sl × Int × Unit) → (Sl × Unit) → World → Prop) (R : Sl → World → Prop) := (thenQ (fun env => getE env zf1_l6 fun (s : Sl × Int × Unit) => getE env zf1_l7 (c1 s)) (blockQ 0 ((zf1_q2 R) .normal) (zf1_q2 R)))
abbrev zf1_l8 : Slots := [(0, .sl), (3, .sl), (4, I)]
def zf1_7 (c1 : (Sl × Int × Unit) → (Sl × Unit) → World → Prop) (R : Sl → World → Prop) (l_0 : Sl) (out_3 : Sl) (i_4 : Int) : World → Prop :=
 c1 (out_3, w64 (i_4 + 1), ()) (l_0, ())
def zf1_6 (c1 : (Sl × Int × Unit) → (Sl × Unit) → World → Prop) (R : Sl → World → Prop) (out_3 : Sl) (i_4 : Int) (l_0 : Sl) : World → Prop :=
 mif (decide (i_4 < (l_0.len : Int)))
 (ixa P zt6 (Sl.v l_0) i_4 fun x2 =>
 ld P ztc x2 zk2 fun (x3 : zT2) =>
 alo P ztc fun a4 =>
 sto P ztc a4 zk2 x3 <|
 ld P zt4 (ad a4 2) .s fun (x5 : Bs) =>
 mif (decide ((x5.length : Int) > 50))
 (ld P zt4 (ad a4 2) .s fun (x6 : Bs) =>
 sls P zt4 x6 none (some 50) fun x7 =>
 sto P zt4 (ad a4 2) .s x7 <|
 ld P ztc a4 zk2 fun (x8 : zT2) =>
 bsl P zt6 zk2 [x8] fun x9 =>
 app P #[zt6, zt6] zt6 (Sl.v out_3) (Sl.v x9) fun x10 =>
 zf1_7 c1 R l_0 x10 i_4)
 (ld P ztc a4 zk2 fun (x11 : zT2) =>
 bsl P zt6 zk2 [x11] fun x12 =>
 app P #[zt6, zt6] zt6 (Sl.v out_3) (Sl.v x12) fun x13 =>
 zf1_7 c1 R l_0 x13 i_4))
 (zf1_3 R out_3)
def zf1_5 (R : Sl → World → Prop) (out_3 : Sl) (i_4 : Int) (l_0 : Sl) : World → Prop :=
 W.Loop (l_0, ()) (fun (c1 : (Sl × Int × Unit) → (Sl × Unit) → World → Prop) (s : Sl × Int × Unit) => zf1_6 c1 R s.1 s.2.1 l_0) (out_3, i_4, ())
def zf1_4 (R : Sl → World → Prop) (l_0 : Sl) (out_3 : Sl) : World → Prop :=
 zf1_5 R out_3 0 l_0
def zf1_2 (R : Sl → World → Prop) (l_0 : Sl) (out_3 : Sl) : World → Prop :=
 zf1_4 R l_0 out_3
def zf1_1 (R : Sl → World → Prop) (l_0 : Sl) : World → Prop :=
 zf1_2 R l_0 ⟨none, 0, 0⟩
def zf1_0 (R : Sl → World → Prop) (l_0 : Sl) : World → Prop :=
 mif (decide ((l_0.len : Int) > 150))
 (slc P zt6 l_0 none (some 150) fun x1 =>
 zf1_1 R x1)
 (zf1_1 R l_0)
theorem zf1_3_ok (R : Sl → World → Prop) (x : Sl × Unit) (w : World) (h : zf1_3 R x.1 w) : WPC P 34 [] (Code.at zf1_B [.snd, .snd, .snd, .snd]) (zf1_q1 R) (mkE 34 zf1_l4 x) w :=
  pc_end h
theorem zf1_7_ok (c1 : (Sl × Int × Unit) → (Sl × Unit) → World → Prop) (R : Sl → World → Prop) (x : Sl × Sl × Int × Unit) (w : World) (h : zf1_7 c1 R x.1 x.2.1 x.2.2.1 w) : WPC P 34 [] (Code.at zf1_B [.snd, .snd, .snd, .fst, .snd, .blk, .blk, .snd, .snd]) (zf1_q3 c1 R) (mkE 34 zf1_l8 x) w :=
  pc_end h
theorem zf1_6_ok (c1 : (Sl × Int × Unit) → (Sl × Unit) → World → Prop) (R : Sl → World → Prop) (x : Sl × Int × Unit) (y : Sl × Unit) (w : World) (h : zf1_6 c1 R x.1 x.2.1 y.1 w) : WPC P 34 [] (Code.at zf1_B [.snd, .snd, .snd, .fst, .snd, .blk, .blk]) (zf1_q3 c1 R) (mkE2 34 zf1_l6 zf1_l7 x y) w :=
  pc_cut (l := zf1_l8) 2 (zf1_7_ok c1 R) h
theorem zf1_5_ok (R : Sl → World → Prop) (x : Sl × Int × Unit) (y : Sl × Unit) (w : World) (h : zf1_5 R x.1 x.2.1 y.1 w) : WPC P 34 [] (Code.at zf1_B [.snd, .snd, .snd, .fst, .snd]) (zf1_q2 R) (mkE2 34 zf1_l6 zf1_l7 x y) w :=
  pc_loopE (l := zf1_l6) (l' := zf1_l7) (id := 0) (b := (Code.at zf1_B [.snd, .snd, .snd, .fst, .snd, .blk, .blk])) (fun c1 s => zf1_6_ok c1 R s y) h
theorem zf1_4_ok (R : Sl → World → Prop) (x : Sl × Sl × Unit) (w : World) (h : zf1_4 R x.1 x.2.1 w) : WPC P 34 [] (Code.at zf1_B [.snd, .snd, .snd, .fst]) (zf1_q2 R) (mkE 34 zf1_l5 x) w :=
  pc_cut2 (l := zf1_l6) (l' := zf1_l7) 1 (zf1_5_ok R) h
theorem zf1_2_ok (R : Sl → World → Prop) (x : Sl × Sl × Unit) (w : World) (h : zf1_2 R x.1 x.2.1 w) : WPC P 34 [] (Code.at zf1_B [.snd, .snd, .snd]) (zf1_q1 R) (mkE 34 zf1_l3 x) w :=
  pc_seq (l := zf1_l4) (a := (Code.at zf1_B [.snd, .snd, .snd, .fst])) (b := (Code.at zf1_B [.snd, .snd, .snd, .snd])) (pc_cut (l := zf1_l5) (c := (Code.at zf1_B [.snd, .snd, .snd, .fst])) 0 (zf1_4_ok R) h) (zf1_3_ok R)
theorem zf1_1_ok (R : Sl → World → Prop) (x : Sl × Unit) (w : World) (h : zf1_1 R x.1 w) : WPC P 34 [] (Code.at zf1_B [.snd, .snd]) (zf1_q1 R) (mkE 34 zf1_l2 x) w :=
  pc_cut (l := zf1_l3) 1 (zf1_2_ok R) h
theorem zf1_0_ok (R : Sl → World → Prop) (x : Sl × Unit) (w : World) (h : zf1_0 R x.1 w) : WPC P 34 [] (Code.at zf1_B []) (zf1_q1 R) (mkE 34 zf1_l1 x) w :=
  pc_cut (l := zf1_l2) 2 (zf1_1_ok R) h
theorem zf1_call (R : Sl → World → Prop) (l_0 : Sl) (w : World) (h : zf1_0 R l_0 w) : mcall P n_zf1 [(Sl.v l_0)] .sl R w :=
  pc_top (l := zf1_l1) (c := zf1_B) Tryz.func4 (zf1_0_ok R) h
noncomputable abbrev zf2_B : Code := (Tryz.f5.body).getD .skip
abbrev zf2_q1 (R : Bool → World → Prop) := (topQ P [.tmp 4] .b R)
abbrev zf2_l1 : Slots := [(0, zk0), (1, zk1)]
abbrev zf2_l2 : Slots := [(2, .ad), (3, .ad)]
abbrev zf2_l3 : Slots := []
def zf2_2 (R : Bool → World → Prop) : World → Prop :=
 R true
abbrev zf2_q2 (R : Bool → World → Prop) := (thenQ (fun env => getE env zf2_l3 fun (x : Unit) => zf2_2 R) (zf2_q1 R))
abbrev zf2_l4 : Slots := [(2, .ad), (3, .ad)]
abbrev zf2_l5 : Slots := [(5, I)]
abbrev zf2_l6 : Slots := [(2, .ad), (3, .ad)]
abbrev zf2_q3 (c1 : (Int × Unit) → (Addr × Addr × Unit) → World → Prop) (R : Bool → World → Prop) := (thenQ (fun env => getE env zf2_l5 fun (s : Int × Unit) => getE env zf2_l6 (c1 s)) (blockQ 0 ((zf2_q2 R) .normal) (zf2_q2 R)))
abbrev zf2_l7 : Slots := [(2, .ad), (3, .ad), (5, I)]
def zf2_6 (c1 : (Int × Unit) → (Addr × Addr × Unit) → World → Prop) (R : Bool → World → Prop) (g_2 : Addr) (s_3 : Addr) (i_5 : Int) : World → Prop :=
 c1 (w64 (i_5 + 1), ()) (g_2, s_3, ())
def zf2_5 (c1 : (Int × Unit) → (Addr × Addr × Unit) → World → Prop) (R : Bool → World → Prop) (i_5 : Int) (g_2 : Addr) (s_3 : Addr) : World → Prop :=
 ld P zt8 (ad s_3 4) .sl fun (x28 : Sl) =>
 mif (decide (i_5 < (x28.len : Int)))
 (ld P zt8 (ad s_3 4) .sl fun (x29 : Sl) =>
 ixa P zt8 (Sl.v x29) i_5 fun x30 =>
 ld P zth x30 zk6 fun (x31 : zT6) =>
 alo P zth fun a32 =>
 sto P zth a32 zk6 x31 <|
 ld P zt1 a32 I fun (x33 : Int) =>
 mcall P n_zfi [(.int .i64 x33)] .b fun (x34 : Bool) =>
 mif (!x34)
 (R false)
 (ld P zt1 a32 I fun (x35 : Int) =>
 mif (decide (x35 > 1048576))
 (R false)
 (ld P zt1 (ad a32 1) I fun (x36 : Int) =>
 mcall P n_zfi [(.int .i64 x36)] .b fun (x37 : Bool) =>
 mif (!x37)
 (R false)
 (ld P zt1 (ad a32 1) I fun (x38 : Int) =>
 ld P zt1 (ad g_2 1) I fun (x39 : Int) =>
 mdz x39 <|
 mif ((x38.tmod x39) != 0)
 (R false)
 (ld P zt1 (ad a32 1) I fun (x40 : Int) =>
 ld P zt1 s_3 I fun (x41 : Int) =>
 mif (decide (x40 > x41))
 (R false)
 (ld P zt5 g_2 zk0 fun (x42 : zT0) =>
 ld P zt1 (ad a32 1) I fun (x43 : Int) =>
 ld P zt1 s_3 I fun (x44 : Int) =>
 mcall P n_zfj [(KV zk0 x42), (.int .i64 x43), (.int .i64 x44)] .b fun (x45 : Bool) =>
 mif x45
 (R false)
 (ld P ztg (ad a32 2) zk5 fun (x46 : zT5) =>
 mcall P n_zfk [(KV zk5 x46)] .b fun (x47 : Bool) =>
 mif (!x47)
 (R false)
 (mdraw <|
 mif (decide (i_5 > 0))
 (ld P zt8 (ad s_3 4) .sl fun (x48 : Sl) =>
 ixa P zt8 (Sl.v x48) (w64 (i_5 - 1)) fun x49 =>
 ld P zth x49 zk6 fun (x50 : zT6) =>
 ld P zth a32 zk6 fun (x51 : zT6) =>
 mcall P n_zfl [(KV zk6 x50), (KV zk6 x51)] .b fun (x52 : Bool) =>
 mif (!x52)
 (R false)
 (zf2_6 c1 R g_2 s_3 i_5))
 (zf2_6 c1 R g_2 s_3 i_5)))))))))
 (zf2_2 R)
def zf2_4 (R : Bool → World → Prop) (i_5 : Int) (g_2 : Addr) (s_3 : Addr) : World → Prop :=
 W.Loop (g_2, s_3, ()) (fun (c1 : (Int × Unit) → (Addr × Addr × Unit) → World → Prop) (s : Int × Unit) => zf2_5 c1 R s.1 g_2 s_3) (i_5, ())
def zf2_3 (R : Bool → World → Prop) (g_2 : Addr) (s_3 : Addr) : World → Prop :=
 zf2_4 R 0 g_2 s_3
def zf2_1 (R : Bool → World → Prop) (g_2 : Addr) (s_3 : Addr) : World → Prop :=
 zf2_3 R g_2 s_3
def zf2_0 (R : Bool → World → Prop) (g_0 : zT0) (s_1 : zT1) : World → Prop :=
 bx P zt5 zk0 g_0 fun a1 =>
 bx P zt9 zk1 s_1 fun a2 =>
 ld P zt5 a1 zk0 fun (x3 : zT0) =>
 mcall P n_zfh [(KV zk0 x3)] .b fun (x4 : Bool) =>
 mif (!x4)
 (R false)
 (ld P zt1 a2 I fun (x5 : Int) =>
 mif (x5 != (-1))
 (ld P zt1 a2 I fun (x6 : Int) =>
 mcall P n_zfi [(.int .i64 x6)] .b fun (x7 : Bool) =>
 mif (!x7)
 (R false)
 (ld P zt1 (ad a2 1) I fun (x8 : Int) =>
 mcall P n_zfi [(.int .i64 x8)] .b fun (x9 : Bool) =>
 mif (!x9)
 (R false)
 (ld P zt1 (ad a2 2) I fun (x10 : Int) =>
 mcall P n_zfi [(.int .i64 x10)] .b fun (x11 : Bool) =>
 mif (!x11)
 (R false)
 (ld P zt1 (ad a2 3) I fun (x12 : Int) =>
 mcall P n_zfi [(.int .i64 x12)] .b fun (x13 : Bool) =>
 mif (!x13)
 (R false)
 (ld P zt1 (ad a2 1) I fun (x14 : Int) =>
 ld P zt1 (ad a2 2) I fun (x15 : Int) =>
 ld P zt1 (ad a2 3) I fun (x16 : Int) =>
 mif (decide ((w64 (x14 + x15)) > x16))
 (R false)
 (ld P zt8 (ad a2 4) .sl fun (x17 : Sl) =>
 mif (decide ((x17.len : Int) > 64))
 (R false)
 (zf2_1 R a1 a2)))))))
 (ld P zt1 (ad a2 1) I fun (x18 : Int) =>
 mcall P n_zfi [(.int .i64 x18)] .b fun (x19 : Bool) =>
 mif (!x19)
 (R false)
 (ld P zt1 (ad a2 2) I fun (x20 : Int) =>
 mcall P n_zfi [(.int .i64 x20)] .b fun (x21 : Bool) =>
 mif (!x21)
 (R false)
 (ld P zt1 (ad a2 3) I fun (x22 : Int) =>
 mcall P n_zfi [(.int .i64 x22)] .b fun (x23 : Bool) =>
 mif (!x23)
 (R false)
 (ld P zt1 (ad a2 1) I fun (x24 : Int) =>
 ld P zt1 (ad a2 2) I fun (x25 : Int) =>
 ld P zt1 (ad a2 3) I fun (x26 : Int) =>
 mif (decide ((w64 (x24 + x25)) > x26))
 (R false)
 (ld P zt8 (ad a2 4) .sl fun (x27 : Sl) =>
 mif (decide ((x27.len : Int) > 64))
 (R false)
 (zf2_1 R a1 a2)))))))
theorem zf2_2_ok (R : Bool → World → Prop) (x : Unit) (w : World) (h : zf2_2 R w) : WPC P 124 [] (Code.at zf2_B [.snd, .snd, .snd]) (zf2_q1 R) (mkE 124 zf2_l3 x) w :=
  pc_end h
theorem zf2_6_ok (c1 : (Int × Unit) → (Addr × Addr × Unit) → World → Prop) (R : Bool → World → Prop) (x : Addr × Addr × Int × Unit) (w : World) (h : zf2_6 c1 R x.1 x.2.1 x.2.2.1 w) : WPC P 124 [] (Code.at zf2_B [.snd, .snd, .fst, .snd, .blk, .blk, .snd, .snd]) (zf2_q3 c1 R) (mkE 124 zf2_l7 x) w :=
  pc_end h
theorem zf2_5_ok (c1 : (Int × Unit) → (Addr × Addr × Unit) → World → Prop) (R : Bool → World → Prop) (x : Int × Unit) (y : Addr × Addr × Unit) (w : World) (h : zf2_5 c1 R x.1 y.1 y.2.1 w) : WPC P 124 [] (Code.at zf2_B [.snd, .snd, .fst, .snd, .blk, .blk]) (zf2_q3 c1 R) (mkE2 124 zf2_l5 zf2_l6 x y) w :=
  pc_cut (l := zf2_l7) 2 (zf2_6_ok c1 R) h
theorem zf2_4_ok (R : Bool → World → Prop) (x : Int × Unit) (y : Addr × Addr × Unit) (w : World) (h : zf2_4 R x.1 y.1 y.2.1 w) : WPC P 124 [] (Code.at zf2_B [.snd, .snd, .fst, .snd]) (zf2_q2 R) (mkE2 124 zf2_l5 zf2_l6 x y) w :=
  pc_loopE (l := zf2_l5) (l' := zf2_l6) (id := 0) (b := (Code.at zf2_B [.snd, .snd, .fst, .snd, .blk, .blk])) (fun c1 s => zf2_5_ok c1 R s y) h
theorem zf2_3_ok (R : Bool → World → Prop) (x : Addr × Addr × Unit) (w : World) (h : zf2_3 R x.1 x.2.1 w) : WPC P 124 [] (Code.at zf2_B [.snd, .snd, .fst]) (zf2_q2 R) (mkE 124 zf2_l4 x) w :=
  pc_cut2 (l := zf2_l5) (l' := zf2_l6) 1 (zf2_4_ok R) h
theorem zf2_1_ok (R : Bool → World → Prop) (x : Addr × Addr × Unit) (w : World) (h : zf2_1 R x.1 x.2.1 w) : WPC P 124 [] (Code.at zf2_B [.snd, .snd]) (zf2_q1 R) (mkE 124 zf2_l2 x) w :=
  pc_seq (l := zf2_l3) (a := (Code.at zf2_B [.snd, .snd, .fst])) (b := (Code.at zf2_B [.snd, .snd, .snd])) (pc_cut (l := zf2_l4) (c := (Code.at zf2_B [.snd, .snd, .fst])) 0 (zf2_3_ok R) h) (zf2_2_ok R)
theorem zf2_0_ok (R : Bool → World → Prop) (x : zT0 × zT1 × Unit) (w : World) (h : zf2_0 R x.1 x.2.1 w) : WPC P 124 [] (Code.at zf2_B []) (zf2_q1 R) (mkE 124 zf2_l1 x) w :=
  pc_cut (l := zf2_l2) 2 (zf2_1_ok R) h
theorem zf2_call (R : Bool → World → Prop) (g_0 : zT0) (s_1 : zT1) (w : World) (h : zf2_0 R g_0 s_1 w) : mcall P n_zf2 [(KV zk0 g_0), (KV zk1 s_1)] .b R w :=
  pc_top (l := zf2_l1) (c := zf2_B) Tryz.func5 (zf2_0_ok R) h
noncomputable abbrev zf3_B : Code := (Tryz.f6.body).getD .skip
abbrev zf3_q1 (R : Bool → World → Prop) := (topQ P [.tmp 0] .b R)
abbrev zf3_l1 : Slots := []
def zf3_0 (R : Bool → World → Prop) : World → Prop :=
 mcall P n_zf8 [(.int .i64 50)] (.tup [.p, I]) fun (x1 : Option Addr × Int × Unit) =>
 mcall P n_zfm [(.pointer x1.1), (.string ⟨[99, 104, 103, 48].toArray⟩)] (.tup [.p, I]) fun (x2 : Option Addr × Int × Unit) =>
 mif (x1.2.1 != 0)
 (R false)
 (mif (x2.2.1 != 0)
 (R false)
 (meq P .eql zti (.pointer x2.1) (.pointer none) fun x3 =>
 mif x3
 (R false)
 (mcall P n_zf7 [(KV zk1 ((-1), 0, 0, 0, ⟨none, 0, 0⟩, ())), (KV zk1 (3, 0, 0, 1, ⟨none, 0, 0⟩, ()))] .sl fun (x4 : Sl) =>
 mcall P n_zfn [(.pointer x2.1), (KV zk1 (1, 0, 0, 0, x4, ()))] (.tup [I, .b, I]) fun (x5 : Int × Bool × Int × Unit) =>
 mcall P n_zfo [(.pointer x2.1), (.int .i64 0), (.int .i64 9), (.bool true)] (.tup [.sl, I, I]) fun (x6 : Sl × Int × Int × Unit) =>
 mdraw <|
 mif ((x4.len : Int) == 1)
 (mif (x5.1 == 0)
 (mif (!x5.2.1)
 (mif (x5.2.2.1 == 0)
 (mif ((x6.1.len : Int) == 1)
 (ixa P zta (Sl.v x6.1) 0 fun x7 =>
 ld P ztc (ad x7 1) zk2 fun (x8 : zT2) =>
 ixa P zt6 (Sl.v x4) 0 fun x9 =>
 ld P ztc x9 zk2 fun (x10 : zT2) =>
 meq P .eql ztc (KV zk2 x8) (KV zk2 x10) fun x11 =>
 mif x11
 (R (x6.2.2.1 == 0))
 (R false))
 (R false))
 (R false))
 (R false))
 (R false))
 (R false))))
theorem zf3_0_ok (R : Bool → World → Prop) (x : Unit) (w : World) (h : zf3_0 R w) : WPC P 82 [] (Code.at zf3_B []) (zf3_q1 R) (mkE 82 zf3_l1 x) w :=
  pc_end h
theorem zf3_call (R : Bool → World → Prop)  (w : World) (h : zf3_0 R w) : mcall P n_zf3 [] .b R w :=
  pc_top (l := zf3_l1) (c := zf3_B) Tryz.func6 (zf3_0_ok R) h
noncomputable abbrev zf4_B : Code := (Tryz.f7.body).getD .skip
abbrev zf4_q1 (R : zT1 → World → Prop) := (topQ P [.cell 0 zt9] zk1 R)
abbrev zf4_l1 : Slots := []
def zf4_0 (R : zT1 → World → Prop) : World → Prop :=
 alo P zt9 fun a1 =>
 sto P zt9 a1 zk1 ((-1), 0, 0, 0, ⟨none, 0, 0⟩, ()) <|
 ld P zt9 a1 zk1 fun (x2 : zT1) =>
 R x2
theorem zf4_0_ok (R : zT1 → World → Prop) (x : Unit) (w : World) (h : zf4_0 R w) : WPC P 2 [] (Code.at zf4_B []) (zf4_q1 R) (mkE 2 zf4_l1 x) w :=
  pc_end h
theorem zf4_call (R : zT1 → World → Prop)  (w : World) (h : zf4_0 R w) : mcall P n_zf4 [] zk1 R w :=
  pc_top (l := zf4_l1) (c := zf4_B) Tryz.func7 (zf4_0_ok R) h
noncomputable abbrev zf5_B : Code := (Tryz.f8.body).getD .skip
abbrev zf5_q1 (R : (zT1 × Sl × Int × Unit) → World → Prop) := (topQ P [.cell 6 zt9, .tmp 7, .tmp 8] (.tup [zk1, .sl, I]) R)
abbrev zf5_l1 : Slots := [(0, zk0), (1, zk1), (2, zk2)]
abbrev zf5_l2 : Slots := [(3, .ad), (4, .ad), (5, .ad), (6, .ad)]
def zf5_1 (R : (zT1 × Sl × Int × Unit) → World → Prop) (g_3 : Addr) (s_4 : Addr) (r_5 : Addr) (v6 : Addr) : World → Prop :=
 ld P zt1 s_4 I fun (x34 : Int) =>
 ld P zt1 (ad r_5 1) I fun (x35 : Int) =>
 sto P zt1 s_4 I (mx x34 x35) <|
 alo P zt8 fun a36 =>
 ld P zt8 (ad s_4 4) .sl fun (x37 : Sl) =>
 mcall P n_zfy [(Sl.v x37), (.func (.func n_zfz) #[] #[.pointer (some g_3), .pointer (some s_4), .pointer (some a36)])] .sl fun (x38 : Sl) =>
 sto P zt8 (ad s_4 4) .sl x38 <|
 mdraw <|
 ld P zt9 s_4 zk1 fun (x39 : zT1) =>
 ld P zt8 a36 .sl fun (x40 : Sl) =>
 sto P zt9 v6 zk1 x39 <|
 mst P (Instr.loadAt zt8 (.pointer (some a36))) (.slice x40.a x40.len x40.cap) <|
 ld P zt9 v6 zk1 fun (x41 : zT1) =>
 R (x41, x40, 0, ())
def zf5_0 (R : (zT1 × Sl × Int × Unit) → World → Prop) (g_0 : zT0) (s_1 : zT1) (r_2 : zT2) : World → Prop :=
 bx P zt5 zk0 g_0 fun a1 =>
 bx P zt9 zk1 s_1 fun a2 =>
 bx P ztc zk2 r_2 fun a3 =>
 alo P zt9 fun a4 =>
 ld P zt5 a1 zk0 fun (x5 : zT0) =>
 ld P zt9 a2 zk1 fun (x6 : zT1) =>
 mcall P n_zfp [(KV zk0 x5), (KV zk1 x6)] I fun (x7 : Int) =>
 mif (x7 != 0)
 (sto P zt9 a4 zk1 (0, 0, 0, 0, ⟨none, 0, 0⟩, ()) <|
 ld P zt9 a4 zk1 fun (x8 : zT1) =>
 R (x8, ⟨none, 0, 0⟩, 1, ()))
 (ld P zt1 a3 I fun (x9 : Int) =>
 ld P zt1 (ad a3 1) I fun (x10 : Int) =>
 bsl P zt7 I [x9, x10] fun x11 =>
 mcall P n_zfq [(Sl.v x11)] .b fun (x12 : Bool) =>
 mif (!x12)
 (sto P zt9 a4 zk1 (0, 0, 0, 0, ⟨none, 0, 0⟩, ()) <|
 ld P zt9 a4 zk1 fun (x13 : zT1) =>
 R (x13, ⟨none, 0, 0⟩, 1, ()))
 (ld P zt1 a3 I fun (x14 : Int) =>
 mif (decide (x14 > 1048576))
 (sto P zt9 a4 zk1 (0, 0, 0, 0, ⟨none, 0, 0⟩, ()) <|
 ld P zt9 a4 zk1 fun (x15 : zT1) =>
 R (x15, ⟨none, 0, 0⟩, 1, ()))
 (ld P zt1 (ad a2 3) I fun (x16 : Int) =>
 mif (x16 == 1099511627776)
 (sto P zt9 a4 zk1 (0, 0, 0, 0, ⟨none, 0, 0⟩, ()) <|
 ld P zt9 a4 zk1 fun (x17 : zT1) =>
 R (x17, ⟨none, 0, 0⟩, 6, ()))
 (ld P zt8 (ad a2 4) .sl fun (x18 : Sl) =>
 mcall P n_zfr [(Sl.v x18)] .sl fun (x19 : Sl) =>
 sto P zt8 (ad a2 4) .sl x19 <|
 ld P zt1 (ad a2 3) I fun (x20 : Int) =>
 sto P zt1 (ad a2 3) I (w64 (x20 + 1)) <|
 ld P ztc a3 zk2 fun (x21 : zT2) =>
 mcall P n_zfs [(KV zk2 x21)] (.tup [I, .b]) fun (x22 : Int × Bool × Unit) =>
 mif (!x22.2.1)
 (ld P zt1 (ad a2 2) I fun (x23 : Int) =>
 sto P zt1 (ad a2 2) I (w64 (x23 + 1)) <|
 ld P zt9 a2 zk1 fun (x24 : zT1) =>
 sto P zt9 a4 zk1 x24 <|
 ld P zt9 a4 zk1 fun (x25 : zT1) =>
 R (x25, ⟨none, 0, 0⟩, 0, ()))
 (ld P zt5 a1 zk0 fun (x26 : zT0) =>
 ld P zt1 (ad a3 1) I fun (x27 : Int) =>
 mcall P n_zft [(KV zk0 x26), (.int .i64 x27)] (.tup [.sl, I]) fun (x28 : Sl × Int × Unit) =>
 mcall P n_zfu [(Sl.v x28.1), (.func (.func n_zfv) #[] #[.pointer (some a1), .pointer (some a2)])] .sl fun (x29 : Sl) =>
 mif ((x29.len : Int) == 0)
 (ld P zt1 (ad a2 1) I fun (x30 : Int) =>
 sto P zt1 (ad a2 1) I (w64 (x30 + 1)) <|
 zf5_1 R a1 a2 a3 a4)
 (ld P zt1 a3 I fun (x31 : Int) =>
 mcall P n_zfx [(.pointer (some a2)), (.int .i64 x31), (.int .i64 x22.1), (Sl.v x29)] .b fun (x32 : Bool) =>
 mif (!x32)
 (ld P zt1 (ad a2 1) I fun (x33 : Int) =>
 sto P zt1 (ad a2 1) I (w64 (x33 + 1)) <|
 zf5_1 R a1 a2 a3 a4)
 (zf5_1 R a1 a2 a3 a4)))))))
theorem zf5_1_ok (R : (zT1 × Sl × Int × Unit) → World → Prop) (x : Addr × Addr × Addr × Addr × Unit) (w : World) (h : zf5_1 R x.1 x.2.1 x.2.2.1 x.2.2.2.1 w) : WPC P 95 [] (Code.at zf5_B [.snd, .snd, .snd, .snd, .snd, .snd, .snd, .snd, .snd, .snd]) (zf5_q1 R) (mkE 95 zf5_l2 x) w :=
  pc_end h
theorem zf5_0_ok (R : (zT1 × Sl × Int × Unit) → World → Prop) (x : zT0 × zT1 × zT2 × Unit) (w : World) (h : zf5_0 R x.1 x.2.1 x.2.2.1 w) : WPC P 95 [] (Code.at zf5_B []) (zf5_q1 R) (mkE 95 zf5_l1 x) w :=
  pc_cut (l := zf5_l2) 10 (zf5_1_ok R) h
theorem zf5_call (R : (zT1 × Sl × Int × Unit) → World → Prop) (g_0 : zT0) (s_1 : zT1) (r_2 : zT2) (w : World) (h : zf5_0 R g_0 s_1 r_2 w) : mcall P n_zf5 [(KV zk0 g_0), (KV zk1 s_1), (KV zk2 r_2)] (.tup [zk1, .sl, I]) R w :=
  pc_top (l := zf5_l1) (c := zf5_B) Tryz.func8 (zf5_0_ok R) h
end Go.Proofs.YtpjhflboedicpaaGreatDoor
