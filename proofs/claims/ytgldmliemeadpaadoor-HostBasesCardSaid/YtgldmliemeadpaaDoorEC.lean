import Derived.Test.YtgldmliemeadpaaDoorDC
import Derived.Test.YtgldmliemeadpaaDoorProg
import Derived.Lib.Bytealg
/-! What the program's types are. -/
namespace GoD.TY
open Go GoD Go.Proofs
theorem c0 : Tryd.prog.cellsOf 0 = 1 := by kernel_rfl
theorem b0 : Tryd.prog.bytesOf 0 = 0 := by kernel_rfl
theorem c1 : Tryd.prog.cellsOf 1 = 1 := by kernel_rfl
theorem b1 : Tryd.prog.bytesOf 1 = 8 := by kernel_rfl
theorem c2 : Tryd.prog.cellsOf 2 = 1 := by kernel_rfl
theorem b2 : Tryd.prog.bytesOf 2 = 8 := by kernel_rfl
theorem c3 : Tryd.prog.cellsOf 3 = 1 := by kernel_rfl
theorem b3 : Tryd.prog.bytesOf 3 = 8 := by kernel_rfl
theorem c4 : Tryd.prog.cellsOf 4 = 1 := by kernel_rfl
theorem b4 : Tryd.prog.bytesOf 4 = 1 := by kernel_rfl
theorem c5 : Tryd.prog.cellsOf 5 = 1 := by kernel_rfl
theorem b5 : Tryd.prog.bytesOf 5 = 1 := by kernel_rfl
theorem c6 : Tryd.prog.cellsOf 6 = 1 := by kernel_rfl
theorem b6 : Tryd.prog.bytesOf 6 = 1 := by kernel_rfl
theorem c7 : Tryd.prog.cellsOf 7 = 4 := by kernel_rfl
theorem b7 : Tryd.prog.bytesOf 7 = 24 := by kernel_rfl
theorem c8 : Tryd.prog.cellsOf 8 = 4 := by kernel_rfl
theorem b8 : Tryd.prog.bytesOf 8 = 24 := by kernel_rfl
theorem c9 : Tryd.prog.cellsOf 9 = 1 := by kernel_rfl
theorem b9 : Tryd.prog.bytesOf 9 = 16 := by kernel_rfl
theorem c10 : Tryd.prog.cellsOf 10 = 1 := by kernel_rfl
theorem b10 : Tryd.prog.bytesOf 10 = 16 := by kernel_rfl
theorem c11 : Tryd.prog.cellsOf 11 = 1 := by kernel_rfl
theorem b11 : Tryd.prog.bytesOf 11 = 16 := by kernel_rfl
theorem c12 : Tryd.prog.cellsOf 12 = 1 := by kernel_rfl
theorem b12 : Tryd.prog.bytesOf 12 = 8 := by kernel_rfl
theorem c13 : Tryd.prog.cellsOf 13 = 2 := by kernel_rfl
theorem b13 : Tryd.prog.bytesOf 13 = 24 := by kernel_rfl
theorem c14 : Tryd.prog.cellsOf 14 = 2 := by kernel_rfl
theorem b14 : Tryd.prog.bytesOf 14 = 24 := by kernel_rfl
theorem c15 : Tryd.prog.cellsOf 15 = 1 := by kernel_rfl
theorem b15 : Tryd.prog.bytesOf 15 = 8 := by kernel_rfl
theorem c16 : Tryd.prog.cellsOf 16 = 1 := by kernel_rfl
theorem b16 : Tryd.prog.bytesOf 16 = 8 := by kernel_rfl
theorem c17 : Tryd.prog.cellsOf 17 = 1 := by kernel_rfl
theorem b17 : Tryd.prog.bytesOf 17 = 8 := by kernel_rfl
theorem c18 : Tryd.prog.cellsOf 18 = 1 := by kernel_rfl
theorem b18 : Tryd.prog.bytesOf 18 = 8 := by kernel_rfl
theorem c19 : Tryd.prog.cellsOf 19 = 1 := by kernel_rfl
theorem b19 : Tryd.prog.bytesOf 19 = 8 := by kernel_rfl
theorem c20 : Tryd.prog.cellsOf 20 = 1 := by kernel_rfl
theorem b20 : Tryd.prog.bytesOf 20 = 16 := by kernel_rfl
theorem c21 : Tryd.prog.cellsOf 21 = 1 := by kernel_rfl
theorem b21 : Tryd.prog.bytesOf 21 = 4 := by kernel_rfl
theorem c22 : Tryd.prog.cellsOf 22 = 1 := by kernel_rfl
theorem b22 : Tryd.prog.bytesOf 22 = 4 := by kernel_rfl
theorem c23 : Tryd.prog.cellsOf 23 = 1 := by kernel_rfl
theorem b23 : Tryd.prog.bytesOf 23 = 24 := by kernel_rfl
theorem c24 : Tryd.prog.cellsOf 24 = 1 := by kernel_rfl
theorem b24 : Tryd.prog.bytesOf 24 = 8 := by kernel_rfl
theorem c25 : Tryd.prog.cellsOf 25 = 1 := by kernel_rfl
theorem b25 : Tryd.prog.bytesOf 25 = 8 := by kernel_rfl
theorem c26 : Tryd.prog.cellsOf 26 = 1 := by kernel_rfl
theorem b26 : Tryd.prog.bytesOf 26 = 8 := by kernel_rfl
theorem c27 : Tryd.prog.cellsOf 27 = 1 := by kernel_rfl
theorem b27 : Tryd.prog.bytesOf 27 = 8 := by kernel_rfl
theorem c28 : Tryd.prog.cellsOf 28 = 1 := by kernel_rfl
theorem b28 : Tryd.prog.bytesOf 28 = 0 := by kernel_rfl
theorem c29 : Tryd.prog.cellsOf 29 = 1 := by kernel_rfl
theorem b29 : Tryd.prog.bytesOf 29 = 8 := by kernel_rfl
theorem c30 : Tryd.prog.cellsOf 30 = 1 := by kernel_rfl
theorem b30 : Tryd.prog.bytesOf 30 = 8 := by kernel_rfl
theorem c31 : Tryd.prog.cellsOf 31 = 1 := by kernel_rfl
theorem b31 : Tryd.prog.bytesOf 31 = 0 := by kernel_rfl
theorem c32 : Tryd.prog.cellsOf 32 = 1 := by kernel_rfl
theorem b32 : Tryd.prog.bytesOf 32 = 8 := by kernel_rfl
theorem c33 : Tryd.prog.cellsOf 33 = 1 := by kernel_rfl
theorem b33 : Tryd.prog.bytesOf 33 = 8 := by kernel_rfl
theorem c34 : Tryd.prog.cellsOf 34 = 1 := by kernel_rfl
theorem b34 : Tryd.prog.bytesOf 34 = 8 := by kernel_rfl
theorem c35 : Tryd.prog.cellsOf 35 = 1 := by kernel_rfl
theorem b35 : Tryd.prog.bytesOf 35 = 8 := by kernel_rfl
theorem c36 : Tryd.prog.cellsOf 36 = 1 := by kernel_rfl
theorem b36 : Tryd.prog.bytesOf 36 = 24 := by kernel_rfl
theorem c37 : Tryd.prog.cellsOf 37 = 1 := by kernel_rfl
theorem b37 : Tryd.prog.bytesOf 37 = 8 := by kernel_rfl
theorem c38 : Tryd.prog.cellsOf 38 = 1 := by kernel_rfl
theorem b38 : Tryd.prog.bytesOf 38 = 8 := by kernel_rfl
theorem c39 : Tryd.prog.cellsOf 39 = 1 := by kernel_rfl
theorem b39 : Tryd.prog.bytesOf 39 = 8 := by kernel_rfl
theorem c40 : Tryd.prog.cellsOf 40 = 1 := by kernel_rfl
theorem b40 : Tryd.prog.bytesOf 40 = 8 := by kernel_rfl
theorem c41 : Tryd.prog.cellsOf 41 = 1 := by kernel_rfl
theorem b41 : Tryd.prog.bytesOf 41 = 0 := by kernel_rfl
theorem c42 : Tryd.prog.cellsOf 42 = 1 := by kernel_rfl
theorem b42 : Tryd.prog.bytesOf 42 = 8 := by kernel_rfl
theorem c43 : Tryd.prog.cellsOf 43 = 1 := by kernel_rfl
theorem b43 : Tryd.prog.bytesOf 43 = 8 := by kernel_rfl
theorem c44 : Tryd.prog.cellsOf 44 = 1 := by kernel_rfl
theorem b44 : Tryd.prog.bytesOf 44 = 24 := by kernel_rfl
theorem c45 : Tryd.prog.cellsOf 45 = 1 := by kernel_rfl
theorem b45 : Tryd.prog.bytesOf 45 = 8 := by kernel_rfl
theorem c46 : Tryd.prog.cellsOf 46 = 1 := by kernel_rfl
theorem b46 : Tryd.prog.bytesOf 46 = 8 := by kernel_rfl
theorem c47 : Tryd.prog.cellsOf 47 = 1 := by kernel_rfl
theorem b47 : Tryd.prog.bytesOf 47 = 8 := by kernel_rfl
theorem c48 : Tryd.prog.cellsOf 48 = 1 := by kernel_rfl
theorem b48 : Tryd.prog.bytesOf 48 = 8 := by kernel_rfl
theorem c49 : Tryd.prog.cellsOf 49 = 1 := by kernel_rfl
theorem b49 : Tryd.prog.bytesOf 49 = 0 := by kernel_rfl
theorem c50 : Tryd.prog.cellsOf 50 = 1 := by kernel_rfl
theorem b50 : Tryd.prog.bytesOf 50 = 8 := by kernel_rfl
theorem c51 : Tryd.prog.cellsOf 51 = 1 := by kernel_rfl
theorem b51 : Tryd.prog.bytesOf 51 = 8 := by kernel_rfl
theorem c52 : Tryd.prog.cellsOf 52 = 1 := by kernel_rfl
theorem b52 : Tryd.prog.bytesOf 52 = 8 := by kernel_rfl
theorem c53 : Tryd.prog.cellsOf 53 = 1 := by kernel_rfl
theorem b53 : Tryd.prog.bytesOf 53 = 0 := by kernel_rfl
theorem c54 : Tryd.prog.cellsOf 54 = 1 := by kernel_rfl
theorem b54 : Tryd.prog.bytesOf 54 = 8 := by kernel_rfl
theorem c55 : Tryd.prog.cellsOf 55 = 1 := by kernel_rfl
theorem b55 : Tryd.prog.bytesOf 55 = 8 := by kernel_rfl
theorem c56 : Tryd.prog.cellsOf 56 = 1 := by kernel_rfl
theorem b56 : Tryd.prog.bytesOf 56 = 8 := by kernel_rfl
theorem c57 : Tryd.prog.cellsOf 57 = 1 := by kernel_rfl
theorem b57 : Tryd.prog.bytesOf 57 = 0 := by kernel_rfl
theorem c58 : Tryd.prog.cellsOf 58 = 1 := by kernel_rfl
theorem b58 : Tryd.prog.bytesOf 58 = 8 := by kernel_rfl
theorem c59 : Tryd.prog.cellsOf 59 = 1 := by kernel_rfl
theorem b59 : Tryd.prog.bytesOf 59 = 8 := by kernel_rfl
theorem c60 : Tryd.prog.cellsOf 60 = 1 := by kernel_rfl
theorem b60 : Tryd.prog.bytesOf 60 = 8 := by kernel_rfl
theorem c61 : Tryd.prog.cellsOf 61 = 1 := by kernel_rfl
theorem b61 : Tryd.prog.bytesOf 61 = 8 := by kernel_rfl
theorem c62 : Tryd.prog.cellsOf 62 = 1 := by kernel_rfl
theorem b62 : Tryd.prog.bytesOf 62 = 8 := by kernel_rfl
theorem c63 : Tryd.prog.cellsOf 63 = 1 := by kernel_rfl
theorem b63 : Tryd.prog.bytesOf 63 = 8 := by kernel_rfl
theorem c64 : Tryd.prog.cellsOf 64 = 1 := by kernel_rfl
theorem b64 : Tryd.prog.bytesOf 64 = 8 := by kernel_rfl
theorem c65 : Tryd.prog.cellsOf 65 = 1 := by kernel_rfl
theorem b65 : Tryd.prog.bytesOf 65 = 0 := by kernel_rfl
theorem c66 : Tryd.prog.cellsOf 66 = 1 := by kernel_rfl
theorem b66 : Tryd.prog.bytesOf 66 = 8 := by kernel_rfl
theorem c67 : Tryd.prog.cellsOf 67 = 1 := by kernel_rfl
theorem b67 : Tryd.prog.bytesOf 67 = 8 := by kernel_rfl
theorem c69 : Tryd.prog.cellsOf 69 = 2 := by kernel_rfl
theorem b69 : Tryd.prog.bytesOf 69 = 2 := by kernel_rfl
theorem c70 : Tryd.prog.cellsOf 70 = 2 := by kernel_rfl
theorem b70 : Tryd.prog.bytesOf 70 = 2 := by kernel_rfl
theorem c71 : Tryd.prog.cellsOf 71 = 32 := by kernel_rfl
theorem b71 : Tryd.prog.bytesOf 71 = 32 := by kernel_rfl
theorem c72 : Tryd.prog.cellsOf 72 = 1 := by kernel_rfl
theorem b72 : Tryd.prog.bytesOf 72 = 0 := by kernel_rfl
theorem c73 : Tryd.prog.cellsOf 73 = 1 := by kernel_rfl
theorem b73 : Tryd.prog.bytesOf 73 = 8 := by kernel_rfl
theorem c74 : Tryd.prog.cellsOf 74 = 1 := by kernel_rfl
theorem b74 : Tryd.prog.bytesOf 74 = 8 := by kernel_rfl
theorem c75 : Tryd.prog.cellsOf 75 = 4 := by kernel_rfl
theorem b75 : Tryd.prog.bytesOf 75 = 40 := by kernel_rfl
theorem c76 : Tryd.prog.cellsOf 76 = 4 := by kernel_rfl
theorem b76 : Tryd.prog.bytesOf 76 = 40 := by kernel_rfl
theorem c80 : Tryd.prog.cellsOf 80 = 1 := by kernel_rfl
theorem b80 : Tryd.prog.bytesOf 80 = 8 := by kernel_rfl
theorem c81 : Tryd.prog.cellsOf 81 = 1 := by kernel_rfl
theorem b81 : Tryd.prog.bytesOf 81 = 1 := by kernel_rfl
theorem c82 : Tryd.prog.cellsOf 82 = 1 := by kernel_rfl
theorem b82 : Tryd.prog.bytesOf 82 = 1 := by kernel_rfl
theorem c83 : Tryd.prog.cellsOf 83 = 1 := by kernel_rfl
theorem b83 : Tryd.prog.bytesOf 83 = 8 := by kernel_rfl
theorem c84 : Tryd.prog.cellsOf 84 = 1 := by kernel_rfl
theorem b84 : Tryd.prog.bytesOf 84 = 8 := by kernel_rfl
theorem c85 : Tryd.prog.cellsOf 85 = 1 := by kernel_rfl
theorem b85 : Tryd.prog.bytesOf 85 = 4 := by kernel_rfl
theorem c86 : Tryd.prog.cellsOf 86 = 1 := by kernel_rfl
theorem b86 : Tryd.prog.bytesOf 86 = 4 := by kernel_rfl
theorem c87 : Tryd.prog.cellsOf 87 = 11 := by kernel_rfl
theorem b87 : Tryd.prog.bytesOf 87 = 48 := by kernel_rfl
theorem c88 : Tryd.prog.cellsOf 88 = 11 := by kernel_rfl
theorem b88 : Tryd.prog.bytesOf 88 = 48 := by kernel_rfl
theorem c89 : Tryd.prog.cellsOf 89 = 1 := by kernel_rfl
theorem b89 : Tryd.prog.bytesOf 89 = 8 := by kernel_rfl
theorem z1 : zeroT Tryd.prog 1 = some [.c .nilFunc] := by kernel_rfl
theorem z2 : zeroT Tryd.prog 2 = some [.i .i64 (0)] := by kernel_rfl
theorem z3 : zeroT Tryd.prog 3 = some [.i .i64 (0)] := by kernel_rfl
theorem z4 : zeroT Tryd.prog 4 = some [.b false] := by kernel_rfl
theorem z5 : zeroT Tryd.prog 5 = some [.i .u8 (0)] := by kernel_rfl
theorem z6 : zeroT Tryd.prog 6 = some [.i .u8 (0)] := by kernel_rfl
theorem z7 : zeroT Tryd.prog 7 = some [.i .i64 (0), .i .i64 (0), .b false, .i .u8 (0)] := by kernel_rfl
theorem f7 : fieldsT Tryd.prog 7 = some [(0, 1, 2), (1, 1, 3), (2, 1, 4), (3, 1, 6)] := by kernel_rfl
theorem z8 : zeroT Tryd.prog 8 = some [.i .i64 (0), .i .i64 (0), .b false, .i .u8 (0)] := by kernel_rfl
theorem f8 : fieldsT Tryd.prog 8 = some [(0, 1, 2), (1, 1, 3), (2, 1, 4), (3, 1, 6)] := by kernel_rfl
theorem z9 : zeroT Tryd.prog 9 = some [.s []] := by kernel_rfl
theorem z10 : zeroT Tryd.prog 10 = some [.s []] := by kernel_rfl
theorem z11 : zeroT Tryd.prog 11 = some [.s []] := by kernel_rfl
theorem z12 : zeroT Tryd.prog 12 = some [.i .u64 (0)] := by kernel_rfl
theorem z13 : zeroT Tryd.prog 13 = some [.s [], .i .u64 (0)] := by kernel_rfl
theorem f13 : fieldsT Tryd.prog 13 = some [(0, 1, 9), (1, 1, 12)] := by kernel_rfl
theorem z14 : zeroT Tryd.prog 14 = some [.s [], .i .u64 (0)] := by kernel_rfl
theorem f14 : fieldsT Tryd.prog 14 = some [(0, 1, 9), (1, 1, 12)] := by kernel_rfl
theorem z15 : zeroT Tryd.prog 15 = some [.c (.pointer none)] := by kernel_rfl
theorem z16 : zeroT Tryd.prog 16 = some [.c (.pointer none)] := by kernel_rfl
theorem z17 : zeroT Tryd.prog 17 = some [.c (.pointer none)] := by kernel_rfl
theorem z18 : zeroT Tryd.prog 18 = some [.c (.pointer none)] := by kernel_rfl
theorem f18 : fieldsT Tryd.prog 18 = some [(0, 1, 17)] := by kernel_rfl
theorem z19 : zeroT Tryd.prog 19 = some [.c (.pointer none)] := by kernel_rfl
theorem f19 : fieldsT Tryd.prog 19 = some [(0, 1, 17)] := by kernel_rfl
theorem z20 : zeroT Tryd.prog 20 = some [.c .nilIface] := by kernel_rfl
theorem z21 : zeroT Tryd.prog 21 = some [.i .i32 (0)] := by kernel_rfl
theorem z22 : zeroT Tryd.prog 22 = some [.i .u32 (0)] := by kernel_rfl
theorem z23 : zeroT Tryd.prog 23 = some [.c (.slice none 0 0)] := by kernel_rfl
theorem z24 : zeroT Tryd.prog 24 = some [.c .nilFunc] := by kernel_rfl
theorem z25 : zeroT Tryd.prog 25 = some [.c .nilFunc] := by kernel_rfl
theorem z26 : zeroT Tryd.prog 26 = some [.c .nilFunc] := by kernel_rfl
theorem z27 : zeroT Tryd.prog 27 = some [.i .u64 (0)] := by kernel_rfl
theorem z29 : zeroT Tryd.prog 29 = some [.c .nilFunc] := by kernel_rfl
theorem z30 : zeroT Tryd.prog 30 = some [.i .i64 (0)] := by kernel_rfl
theorem z32 : zeroT Tryd.prog 32 = some [.c .nilFunc] := by kernel_rfl
theorem z33 : zeroT Tryd.prog 33 = some [.c .nilFunc] := by kernel_rfl
theorem z34 : zeroT Tryd.prog 34 = some [.c .nilFunc] := by kernel_rfl
theorem z35 : zeroT Tryd.prog 35 = some [.c .nilFunc] := by kernel_rfl
theorem z36 : zeroT Tryd.prog 36 = some [.c (.slice none 0 0)] := by kernel_rfl
theorem z37 : zeroT Tryd.prog 37 = some [.i .u64 (0)] := by kernel_rfl
theorem z38 : zeroT Tryd.prog 38 = some [.c .nilFunc] := by kernel_rfl
theorem z39 : zeroT Tryd.prog 39 = some [.c .nilFunc] := by kernel_rfl
theorem z40 : zeroT Tryd.prog 40 = some [.c .nilFunc] := by kernel_rfl
theorem z42 : zeroT Tryd.prog 42 = some [.c .nilFunc] := by kernel_rfl
theorem z43 : zeroT Tryd.prog 43 = some [.c .nilFunc] := by kernel_rfl
theorem z44 : zeroT Tryd.prog 44 = some [.c (.slice none 0 0)] := by kernel_rfl
theorem z45 : zeroT Tryd.prog 45 = some [.c .nilFunc] := by kernel_rfl
theorem z46 : zeroT Tryd.prog 46 = some [.c .nilFunc] := by kernel_rfl
theorem z47 : zeroT Tryd.prog 47 = some [.c .nilFunc] := by kernel_rfl
theorem z48 : zeroT Tryd.prog 48 = some [.c .nilFunc] := by kernel_rfl
theorem z50 : zeroT Tryd.prog 50 = some [.c .nilFunc] := by kernel_rfl
theorem z51 : zeroT Tryd.prog 51 = some [.c .nilFunc] := by kernel_rfl
theorem z52 : zeroT Tryd.prog 52 = some [.c .nilFunc] := by kernel_rfl
theorem z54 : zeroT Tryd.prog 54 = some [.c .nilFunc] := by kernel_rfl
theorem z55 : zeroT Tryd.prog 55 = some [.c .nilFunc] := by kernel_rfl
theorem z56 : zeroT Tryd.prog 56 = some [.c .nilFunc] := by kernel_rfl
theorem z58 : zeroT Tryd.prog 58 = some [.c .nilFunc] := by kernel_rfl
theorem z59 : zeroT Tryd.prog 59 = some [.c .nilFunc] := by kernel_rfl
theorem z60 : zeroT Tryd.prog 60 = some [.c .nilFunc] := by kernel_rfl
theorem z61 : zeroT Tryd.prog 61 = some [.c .nilFunc] := by kernel_rfl
theorem z62 : zeroT Tryd.prog 62 = some [.c .nilFunc] := by kernel_rfl
theorem z63 : zeroT Tryd.prog 63 = some [.c .nilFunc] := by kernel_rfl
theorem z64 : zeroT Tryd.prog 64 = some [.c .nilFunc] := by kernel_rfl
theorem z66 : zeroT Tryd.prog 66 = some [.c .nilFunc] := by kernel_rfl
theorem z67 : zeroT Tryd.prog 67 = some [.c .nilFunc] := by kernel_rfl
theorem z69 : zeroT Tryd.prog 69 = some [.i .u8 (0), .i .u8 (0)] := by kernel_rfl
theorem f69 : fieldsT Tryd.prog 69 = some [(0, 1, 5), (1, 1, 5)] := by kernel_rfl
theorem z70 : zeroT Tryd.prog 70 = some [.i .u8 (0), .i .u8 (0)] := by kernel_rfl
theorem f70 : fieldsT Tryd.prog 70 = some [(0, 1, 5), (1, 1, 5)] := by kernel_rfl
theorem z71 : zeroT Tryd.prog 71 = some [.i .u8 (0), .i .u8 (0), .i .u8 (0), .i .u8 (0), .i .u8 (0), .i .u8 (0), .i .u8 (0), .i .u8 (0), .i .u8 (0), .i .u8 (0), .i .u8 (0), .i .u8 (0), .i .u8 (0), .i .u8 (0), .i .u8 (0), .i .u8 (0), .i .u8 (0), .i .u8 (0), .i .u8 (0), .i .u8 (0), .i .u8 (0), .i .u8 (0), .i .u8 (0), .i .u8 (0), .i .u8 (0), .i .u8 (0), .i .u8 (0), .i .u8 (0), .i .u8 (0), .i .u8 (0), .i .u8 (0), .i .u8 (0)] := by kernel_rfl
theorem z73 : zeroT Tryd.prog 73 = some [.c .nilFunc] := by kernel_rfl
theorem z74 : zeroT Tryd.prog 74 = some [.c .nilFunc] := by kernel_rfl
theorem z75 : zeroT Tryd.prog 75 = some [.c (.pointer none), .c (.pointer none), .c (.pointer none), .s []] := by kernel_rfl
theorem f75 : fieldsT Tryd.prog 75 = some [(0, 1, 17), (1, 1, 17), (2, 1, 17), (3, 1, 9)] := by kernel_rfl
theorem z76 : zeroT Tryd.prog 76 = some [.c (.pointer none), .c (.pointer none), .c (.pointer none), .s []] := by kernel_rfl
theorem f76 : fieldsT Tryd.prog 76 = some [(0, 1, 17), (1, 1, 17), (2, 1, 17), (3, 1, 9)] := by kernel_rfl
theorem z80 : zeroT Tryd.prog 80 = some [.c .nilFunc] := by kernel_rfl
theorem z81 : zeroT Tryd.prog 81 = some [.i .u8 (0)] := by kernel_rfl
theorem z82 : zeroT Tryd.prog 82 = some [.i .u8 (0)] := by kernel_rfl
theorem z83 : zeroT Tryd.prog 83 = some [.c .nilFunc] := by kernel_rfl
theorem z84 : zeroT Tryd.prog 84 = some [.c (.pointer none)] := by kernel_rfl
theorem z85 : zeroT Tryd.prog 85 = some [.i .i32 (0)] := by kernel_rfl
theorem z86 : zeroT Tryd.prog 86 = some [.i .i32 (0)] := by kernel_rfl
theorem z87 : zeroT Tryd.prog 87 = some [.i .u64 (0), .i .u64 (0), .i .u32 (0), .i .u8 (0), .i .u8 (0), .i .u8 (0), .i .u8 (0), .c .nilFunc, .c (.pointer none), .i .i32 (0), .i .i32 (0)] := by kernel_rfl
theorem f87 : fieldsT Tryd.prog 87 = some [(0, 1, 12), (1, 1, 12), (2, 1, 22), (3, 1, 81), (4, 1, 5), (5, 1, 5), (6, 1, 82), (7, 1, 83), (8, 1, 84), (9, 1, 85), (10, 1, 86)] := by kernel_rfl
theorem z88 : zeroT Tryd.prog 88 = some [.i .u64 (0), .i .u64 (0), .i .u32 (0), .i .u8 (0), .i .u8 (0), .i .u8 (0), .i .u8 (0), .c .nilFunc, .c (.pointer none), .i .i32 (0), .i .i32 (0)] := by kernel_rfl
theorem f88 : fieldsT Tryd.prog 88 = some [(0, 1, 12), (1, 1, 12), (2, 1, 22), (3, 1, 81), (4, 1, 5), (5, 1, 5), (6, 1, 82), (7, 1, 83), (8, 1, 84), (9, 1, 85), (10, 1, 86)] := by kernel_rfl
theorem z89 : zeroT Tryd.prog 89 = some [.c (.pointer none)] := by kernel_rfl
attribute [go_sem] c0 b0 c1 b1 c2 b2 c3 b3 c4 b4 c5 b5 c6 b6 c7 b7 c8 b8 c9 b9 c10 b10 c11 b11 c12 b12 c13 b13 c14 b14 c15 b15 c16 b16 c17 b17 c18 b18 c19 b19 c20 b20 c21 b21 c22 b22 c23 b23 c24 b24 c25 b25 c26 b26 c27 b27 c28 b28 c29 b29 c30 b30 c31 b31 c32 b32 c33 b33 c34 b34 c35 b35 c36 b36 c37 b37 c38 b38 c39 b39 c40 b40 c41 b41 c42 b42 c43 b43 c44 b44 c45 b45 c46 b46 c47 b47 c48 b48 c49 b49 c50 b50 c51 b51 c52 b52 c53 b53 c54 b54 c55 b55 c56 b56 c57 b57 c58 b58 c59 b59 c60 b60 c61 b61 c62 b62 c63 b63 c64 b64 c65 b65 c66 b66 c67 b67 c69 b69 c70 b70 c71 b71 c72 b72 c73 b73 c74 b74 c75 b75 c76 b76 c80 b80 c81 b81 c82 b82 c83 b83 c84 b84 c85 b85 c86 b86 c87 b87 c88 b88 c89 b89 z1 z2 z3 z4 z5 z6 z7 f7 z8 f8 z9 z10 z11 z12 z13 f13 z14 f14 z15 z16 z17 z18 f18 z19 f19 z20 z21 z22 z23 z24 z25 z26 z27 z29 z30 z32 z33 z34 z35 z36 z37 z38 z39 z40 z42 z43 z44 z45 z46 z47 z48 z50 z51 z52 z54 z55 z56 z58 z59 z60 z61 z62 z63 z64 z66 z67 z69 f69 z70 f70 z71 z73 z74 z75 f75 z76 f76 z80 z81 z82 z83 z84 z85 z86 z87 f87 z88 f88 z89
end GoD.TY

/-! What the document says, over lists of bytes. -/
namespace GoD
set_option linter.unusedVariables false
theorem cut_at {α : Type} {l : List α} {f i : Nat} (h1 : f ≤ i) (h2 : i < l.length) : l.drop f = (l.drop f).take (i - f) ++ l[i] :: l.drop (i + 1) := by
  have e : l.drop i = l[i] :: l.drop (i + 1) := List.drop_eq_getElem_cons h2
  rw [← e]
  have : l.drop i = (l.drop f).drop (i - f) := by rw [List.drop_drop]; congr 1; omega
  rw [this, List.take_append_drop]
theorem cut_snoc {α : Type} {l : List α} {f i : Nat} (h1 : f ≤ i) (h2 : i < l.length) : (l.drop f).take (i + 1 - f) = (l.drop f).take (i - f) ++ [l[i]] := by
  have h3 : i - f < (l.drop f).length := by simp; omega
  have : i + 1 - f = (i - f) + 1 := by omega
  rw [this, List.take_succ_eq_append_getElem h3, List.getElem_drop]
  congr 3; omega
theorem cut_all {α : Type} {l : List α} {f : Nat} : (l.drop f).take (l.length - f) = l.drop f := List.take_of_length_le (by simp)
def lowB (c : Int) : Int := if 65 ≤ c ∧ c ≤ 90 then c + 32 else c
def lowerL (xs : List Int) : List Int := xs.map lowB
def hexv (c : Int) : Int := if 48 ≤ c ∧ c ≤ 57 then c - 48 else if 97 ≤ c ∧ c ≤ 102 then c - 87 else if 65 ≤ c ∧ c ≤ 70 then c - 55 else -1
def decodeL : List Int → List Int
  | c :: a :: b :: t => if c = 37 ∧ 0 ≤ hexv a ∧ 0 ≤ hexv b then (16 * hexv a + hexv b) :: decodeL t else c :: decodeL (a :: b :: t)
  | l => l
theorem hexv_le (c : Int) : -1 ≤ hexv c ∧ hexv c ≤ 15 := by
  unfold hexv
  split
  · omega
  · split
    · omega
    · split <;> omega
theorem decodeL_hex {a b : Int} {t : List Int} (ha : 0 ≤ hexv a) (hb : 0 ≤ hexv b) : decodeL (37 :: a :: b :: t) = (16 * hexv a + hexv b) :: decodeL t := by rw [decodeL, if_pos ⟨rfl, ha, hb⟩]
theorem decodeL_other {c : Int} {t : List Int} (h : ∀ a b r, t = a :: b :: r → c = 37 → 0 ≤ hexv a → 0 ≤ hexv b → False) : decodeL (c :: t) = c :: decodeL t := by
  match t with
  | [] => rfl
  | [a] => simp [decodeL]
  | a :: b :: r => rw [decodeL, if_neg fun e => h a b r rfl e.1 e.2.1 e.2.2]
theorem decodeL_len : ∀ l : List Int, (decodeL l).length ≤ l.length
  | [] => by simp [decodeL]
  | [a] => by simp [decodeL]
  | [a, b] => by simp [decodeL]
  | c :: a :: b :: t => by
    have h1 := decodeL_len t
    have h2 := decodeL_len (a :: b :: t)
    unfold decodeL
    split <;> simp at * <;> omega
def splitL (sep : Int) : List Int → List (List Int)
  | [] => [[]]
  | c :: t => if c = sep then [] :: splitL sep t else match splitL sep t with
    | [] => [[c]]
    | p :: ps => (c :: p) :: ps
theorem splitL_ne (sep : Int) : ∀ l, splitL sep l ≠ []
  | [] => by simp [splitL]
  | c :: t => by
    unfold splitL
    split
    · simp
    · split <;> simp
theorem splitL_none {sep : Int} : ∀ {l : List Int}, sep ∉ l → splitL sep l = [l]
  | [], _ => rfl
  | c :: t, h => by
    rw [List.mem_cons, not_or] at h
    rw [splitL, if_neg fun e => h.1 e.symm, splitL_none h.2]
theorem splitL_cons {sep : Int} {r : List Int} : ∀ {l : List Int}, sep ∉ l → splitL sep (l ++ sep :: r) = l :: splitL sep r
  | [], _ => by simp [splitL]
  | c :: t, h => by
    rw [List.mem_cons, not_or] at h
    rw [List.cons_append, splitL, if_neg fun e => h.1 e.symm, splitL_cons h.2]
theorem splitL_len (sep : Int) : ∀ l : List Int, (splitL sep l).length ≤ l.length + 1
  | [] => by simp [splitL]
  | c :: t => by
    have ih := splitL_len sep t
    unfold splitL
    split
    · simp; omega
    · split <;> simp_all; omega
def partsL (xs : List Int) : List (List Int) :=
  if 1 < (splitL 46 xs).length ∧ (splitL 46 xs).getLast? = some [] then (splitL 46 xs).dropLast else splitL 46 xs
def digitsB (base : Int) (xs : List Int) : Bool := xs.all fun c => decide (0 ≤ hexv c ∧ hexv c < base)
def hexP : List Int → Bool
  | a :: b :: _ => a == 48 && (b == 120 || b == 88)
  | _ => false
def accV (base : Int) : Int → List Int → Option Int
  | n, [] => some n
  | n, c :: t => if base * n + hexv c ≥ 4294967296 then none else accV base (base * n + hexv c) t
def baseV (xs : List Int) : Int := if hexP xs then 16 else if 1 < xs.length ∧ xs.head? = some 48 then 8 else 10
def restV (xs : List Int) : List Int := if hexP xs then xs.drop 2 else if 1 < xs.length ∧ xs.head? = some 48 then xs.drop 1 else xs
def pieceV (xs : List Int) : Option Int := if xs = [] ∨ digitsB (baseV xs) (restV xs) = false then none else accV (baseV xs) 0 (restV xs)
theorem partsL_len (l : List Int) : (partsL l).length ≤ l.length + 1 := by
  have := splitL_len 46 l
  unfold partsL
  split <;> simp <;> omega
theorem partsL_take (l : List Int) : partsL l = (splitL 46 l).take (partsL l).length := by
  unfold partsL
  split
  · rw [List.dropLast_eq_take]; simp
  · simp
theorem partsL_ne (l : List Int) : partsL l ≠ [] := by
  have h0 := splitL_ne 46 l
  unfold partsL
  split
  · rename_i h
    intro e
    have := congrArg List.length e
    simp at this
    omega
  · exact h0
def okV : Option Int → Int × Bool
  | none => (0, false)
  | some n => (n, true)
def numL : Nat → List (List Int) → Option Int
  | _, [] => none
  | left, [p] => (pieceV p).bind fun n => if n < 2 ^ (8 * left) then some n else none
  | left, p :: q :: t => (pieceV p).bind fun n => if n > 255 then none else (numL (left - 1) (q :: t)).map fun v => n * 2 ^ (8 * (left - 1)) + v
theorem numL_more {left : Nat} {p : List Int} {r : List (List Int)} (h : r ≠ []) : numL left (p :: r) = (pieceV p).bind fun n => if n > 255 then none else (numL (left - 1) r).map fun v => n * 2 ^ (8 * (left - 1)) + v := by
  match r with
  | [] => exact absurd rfl h
  | q :: t => rfl
theorem splitL_mem {c : Int} : ∀ {l p : List Int}, p ∈ splitL c l → p.length ≤ l.length
  | [], p, h => by simp [splitL] at h; simp [h]
  | d :: t, p, h => by
    have ih := fun {p} => @splitL_mem c t p
    unfold splitL at h
    split at h
    · rcases List.mem_cons.1 h with h | h
      · simp [h]
      · have := ih h; simp; omega
    · split at h
      · simp at h; simp [h]
      · rename_i q qs e
        rcases List.mem_cons.1 h with h | h
        · have := ih (p := q) (by rw [e]; exact List.mem_cons_self); simp [h]; omega
        · have := ih (p := p) (by rw [e]; exact List.mem_cons_of_mem _ h); simp; omega
theorem pieceV_le {l : List Int} {n : Int} (h : pieceV l = some n) : 0 ≤ n ∧ n < 4294967296 := by
  have key : ∀ (b : Int) (hb : 0 ≤ b) (l : List Int) (n m : Int), 0 ≤ n → n < 4294967296 → (∀ c ∈ l, 0 ≤ hexv c) → accV b n l = some m → 0 ≤ m ∧ m < 4294967296 := by
    intro b hb l
    induction l with
    | nil => intro n m h0 h1 _ h; simp [accV] at h; omega
    | cons c t ih =>
      intro n m h0 h1 hc h
      rw [accV] at h
      split at h
      · cases h
      · rename_i h2
        have := Int.mul_nonneg hb h0
        have h3 := hc c List.mem_cons_self
        exact ih _ _ (by omega) (by omega) (fun x hx => hc x (List.mem_cons_of_mem _ hx)) h
  unfold pieceV at h
  split at h
  · cases h
  · rename_i h1
    have h2 : digitsB (baseV l) (restV l) = true := by
      cases hd : digitsB (baseV l) (restV l) with
      | true => rfl
      | false => exact absurd (.inr hd) h1
    refine key (baseV l) ?_ (restV l) 0 n (by omega) (by omega) (fun c hc => (of_decide_eq_true (List.all_eq_true.1 h2 c hc) : 0 ≤ hexv c ∧ _).1) h
    unfold baseV
    split
    · omega
    · split <;> omega
def numberL (xs : List Int) : Option Int := if 4 < (partsL xs).length then none else numL 4 (partsL xs)
def numericB (xs : List Int) : Bool := if hexP xs then digitsB 16 (xs.drop 2) else xs != [] && digitsB 10 xs
def decD (n : Nat) : List Int := if h : n < 10 then [48 + (n : Int)] else decD (n / 10) ++ [48 + ((n % 10 : Nat) : Int)]
def textL (a : Int) : List Int := decD (a / 16777216).toNat ++ [46] ++ decD (a / 65536 % 256).toNat ++ [46] ++ decD (a / 256 % 256).toNat ++ [46] ++ decD (a % 256).toNat
def forbB (c : Int) : Bool := decide (c ≤ 32) || decide (127 ≤ c) || [35, 37, 47, 58, 60, 62, 63, 64, 91, 92, 93, 94, 124].contains c
def hostL (xs : List Int) : Option (List Int) :=
  if lowerL (decodeL xs) = [] ∨ (lowerL (decodeL xs)).any forbB = true then none
  else if numericB ((partsL (lowerL (decodeL xs))).getLastD []) then (numberL (lowerL (decodeL xs))).map textL
  else some (lowerL (decodeL xs))
def addrL (xs : List Int) : Option Int := (numberL xs).bind fun n => if textL n = xs then some n else none
def domainB (xs : List Int) : Bool := hostL xs == some xs && (addrL xs).isNone
def blB (c : Int) : Bool := [9, 10, 12, 13, 32].contains c
def blanksG : List Int → List Int → List (List Int)
  | cur, [] => if cur = [] then [] else [cur]
  | cur, c :: t => if blB c = true then (if cur = [] then blanksG [] t else cur :: blanksG [] t) else blanksG (cur ++ [c]) t
def blanksL (xs : List Int) : List (List Int) := blanksG [] xs
theorem blanksG_blank {cur t : List Int} {c : Int} (h : blB c = true) : blanksG cur (c :: t) = (if cur = [] then [] else [cur]) ++ blanksG [] t := by
  rw [blanksG, if_pos h]
  split <;> simp
theorem blanksG_other {cur t : List Int} {c : Int} (h : blB c = false) : blanksG cur (c :: t) = blanksG (cur ++ [c]) t := by
  rw [blanksG, if_neg (by simp [h])]
theorem blB_iff {c : Int} : blB c = true ↔ c = 9 ∨ c = 10 ∨ c = 12 ∨ c = 13 ∨ c = 32 := by simp [blB]
theorem blanksG_len : ∀ (l cur : List Int), (blanksG cur l).length ≤ l.length + 1
  | [], cur => by unfold blanksG; split <;> simp
  | c :: t, cur => by
    have h1 := blanksG_len t
    unfold blanksG
    split
    · split
      · have := h1 []; simp; omega
      · have := h1 []; simp; omega
    · have := h1 (cur ++ [c]); simp; omega
def asciiB (xs : List Int) : Bool := xs.all fun c => decide (c < 128)
abbrev Dr := List Int × List (List Int)
def cspStep (acc : List Dr) (p : List Int) : List Dr :=
  if asciiB p = false ∨ blanksL p = [] then acc
  else if (acc.any fun d => d.1 == lowerL ((blanksL p).headD [])) = true then acc
  else acc ++ [(lowerL ((blanksL p).headD []), (blanksL p).drop 1)]
def cspL (xs : List Int) : List Dr := (splitL 59 xs).foldl cspStep []
def findL (l : List Dr) : List (List Int) → Option Dr
  | [] => none
  | n :: ns => match l.find? (fun d => d.1 == n) with
    | some d => some d
    | none => findL l ns
theorem asciiB_cons (c : Int) (t : List Int) : asciiB (c :: t) = (decide (c < 128) && asciiB t) := rfl
theorem digitsB_cons (b c : Int) (t : List Int) : digitsB b (c :: t) = (decide (0 ≤ hexv c ∧ hexv c < b) && digitsB b t) := rfl
def letterB (c : Int) : Bool := decide (97 ≤ c ∧ c ≤ 122) || decide (65 ≤ c ∧ c ≤ 90)
def digitB (c : Int) : Bool := decide (48 ≤ c ∧ c ≤ 57)
end GoD

/-! Texts of ASCII as the document answers them. -/
namespace GoD
open Go Go.Proofs
set_option linter.unusedVariables false
set_option linter.unusedSimpArgs false
abbrev G0 : Nat → List V := fun _ => []
theorem fol : Tryd.prog.follows .mixedOrders = true := by kernel_rfl
theorem ofBA_nil : ofBA { data := #[] } = [] := rfl
theorem ofBA_mk (l : List UInt8) : ofBA { data := l.toArray } = l.map fun c => (c.toNat : Int) := rfl
attribute [go_sem] ofBA_nil ofBA_mk Ext.refl Ext.new
theorem beq_i (a b : Int) : (a == b) = decide (a = b) := by by_cases h : a = b <;> simp [h]
theorem bne_i (a b : Int) : (a != b) = !decide (a = b) := by by_cases h : a = b <;> simp [h]
theorem beq_l (a b : List Int) : (a == b) = decide (a = b) := by by_cases h : a = b <;> simp [h]
attribute [go_sem] beq_i bne_i beq_l
theorem cl1 (i n : Nat) : ((i : Int) + 1 < (n : Int)) = (i + 1 < n) := propext (by omega)
theorem cm1 (i n : Nat) : ((i : Int) + 1 ≤ (n : Int)) = (i + 1 ≤ n) := propext (by omega)
theorem cn1 (i : Nat) : (0 ≤ (i : Int) + 1) = True := propext ⟨fun _ => trivial, fun _ => by omega⟩
theorem ct1 (i : Nat) : ((i : Int) + 1).toNat = i + 1 := by omega
theorem cl2 (i n : Nat) : ((i : Int) + 2 < (n : Int)) = (i + 2 < n) := propext (by omega)
theorem cm2 (i n : Nat) : ((i : Int) + 2 ≤ (n : Int)) = (i + 2 ≤ n) := propext (by omega)
theorem cn2 (i : Nat) : (0 ≤ (i : Int) + 2) = True := propext ⟨fun _ => trivial, fun _ => by omega⟩
theorem ct2 (i : Nat) : ((i : Int) + 2).toNat = i + 2 := by omega
theorem cl3 (i n : Nat) : ((i : Int) + 3 < (n : Int)) = (i + 3 < n) := propext (by omega)
theorem cm3 (i n : Nat) : ((i : Int) + 3 ≤ (n : Int)) = (i + 3 ≤ n) := propext (by omega)
theorem cn3 (i : Nat) : (0 ≤ (i : Int) + 3) = True := propext ⟨fun _ => trivial, fun _ => by omega⟩
theorem ct3 (i : Nat) : ((i : Int) + 3).toNat = i + 3 := by omega
attribute [go_sem] cl1 cm1 cn1 ct1 cl2 cm2 cn2 ct2 cl3 cm3 cn3 ct3
theorem i64_1 {i : Nat} {l : List Int} (h : l.length ≤ 281474976710656) (hi : i < l.length) : IntKind.i64.wrap ((i : Int) + 1) = ((i + 1 : Nat) : Int) := by rw [w64 (by omega)]; rfl
theorem i64_2 {i : Nat} (hi : i < 1152921504606846976) : IntKind.i64.wrap ((i : Int) + 2) = ((i + 2 : Nat) : Int) := by rw [w64 (by omega)]; rfl
theorem i64_3 {i : Nat} (hi : i < 1152921504606846976) : IntKind.i64.wrap ((i : Int) + 2 + 1) = ((i + 3 : Nat) : Int) := by rw [w64 (by omega)]; omega
theorem i64_n {i : Nat} (hi : i < 1152921504606846976) : IntKind.i64.wrap ((i : Int) + 1) = ((i + 1 : Nat) : Int) := by rw [w64 (by omega)]; rfl
theorem sl_of {r : List (Option Loc)} {b o n z : Nat} {a : List V} {xs : List Value} (h : RL r (.sl b o n z :: a) xs) : n ≤ 281474976710656 ∧ ∃ ys, RL r a ys := by
  cases h with | cons h1 h2 =>
  refine ⟨?_, _, h2⟩
  cases h1 with
  | sl _ _ _ _ _ _ _ _ _ hb => exact hb
  | s0 => omega
  | sn => omega
/-- bytes, strings, as cells -/
def bts (l : List Int) : List V := l.map (.i .u8)
def sts (l : List (List Int)) : List V := l.map .s
theorem bts_nil : bts [] = [] := rfl
theorem sts_nil : sts [] = [] := rfl
theorem bts_len (l : List Int) : (bts l).length = l.length := by simp [bts]
theorem sts_len (l : List (List Int)) : (sts l).length = l.length := by simp [sts]
theorem bts_snoc (l : List Int) (c : Int) : bts l ++ [.i .u8 c] = bts (l ++ [c]) := by simp [bts]
theorem sts_snoc (l : List (List Int)) (c : List Int) : sts l ++ [.s c] = sts (l ++ [c]) := by simp [sts]
theorem bts_V (l : List Int) : bytesV (bts l) = some l := by
  induction l with
  | nil => rfl
  | cons c l ih =>
    have : bts (c :: l) = .i .u8 c :: bts l := rfl
    rw [this, bytesV, ih]; rfl
theorem ldN_all (c : List V) : ldN c 0 c.length = some c := by simp [ldN]
theorem ldN_n {c : List V} {n : Nat} (h : n = c.length) : ldN c 0 n = some c := by subst h; exact ldN_all c
theorem ldN_b {l : List Int} {n : Nat} (h : l.length = n) : ldN (bts l) 0 n = some (bts l) := ldN_n (by rw [bts_len, h])
theorem ldN_s {l : List (List Int)} {n : Nat} (h : l.length = n) : ldN (sts l) 0 n = some (sts l) := ldN_n (by rw [sts_len, h])
theorem bts_one (l : List Int) : (bts l).all isOne = true := by simp [bts, isOne]
theorem sts_one (l : List (List Int)) : (sts l).all isOne = true := by simp [sts, isOne]
theorem bts_flat (l : List Int) : (bts l).all flat = true := by simp [bts, flat]
theorem sts_flat (l : List (List Int)) : (sts l).all flat = true := by simp [sts, flat]
attribute [go_sem] bts_len sts_len bts_snoc sts_snoc bts_V bts_one sts_one bts_flat sts_flat
theorem Trim.sl {h h' : Heap} {m o n z : Nat} {b : Blk} (he : Ext h h') (hm : h.length ≤ m) (hml : m < h'.length) (hg : hget h' m = b) (hf : b.cells.all GoD.flat = true) : ∃ σ, Trim h (.sl m o n z) h' (.sl h.length o n z) (h ++ [b]) σ :=
  ⟨GoD.one h.length m, Trim.one (by simp [renV, GoD.one]) (by simp [bndV]) he hm hml hg hf⟩
theorem hget_at {h l : Heap} {n k : Nat} (e : h.length = n) : hget (h ++ l) (n + k) = l.getD k dead := by
  unfold hget
  rw [List.getD_eq_getElem?_getD, List.getD_eq_getElem?_getD, List.getElem?_append_right (by omega), show n + k - h.length = k by omega]
theorem hget_at0 {h l : Heap} {n : Nat} (e : h.length = n) : hget (h ++ l) n = l.getD 0 dead := hget_at (k := 0) e
theorem hget_lt {h l : Heap} {n : Nat} (e : n < h.length) : hget (h ++ l) n = hget h n := by
  unfold hget
  rw [List.getD_eq_getElem?_getD, List.getD_eq_getElem?_getD, List.getElem?_append_left e]
theorem Ext.app {h h1 : Heap} (e : Ext h h1) (l : Heap) : Ext h (h1 ++ l) := ⟨by have := e.1; simp; omega, fun i hi => by rw [hget_lt (by have := e.1; omega)]; exact e.2 i hi⟩
theorem Ext.dead {h h1 : Heap} {m : Nat} (e : Ext h h1) (hm : h.length ≤ m) : Ext h (h1.set m GoD.dead) := Ext.set e hm _
theorem getD0 (a : Blk) (l : Heap) : (a :: l).getD 0 dead = a := rfl
theorem getDS (a : Blk) (l : Heap) (k : Nat) : (a :: l).getD (k + 1) dead = l.getD k dead := rfl
theorem getD1 (a b : Blk) (l : Heap) : (a :: b :: l).getD 1 dead = b := rfl
theorem getD2 (a b c : Blk) (l : Heap) : (a :: b :: c :: l).getD 2 dead = c := rfl
attribute [go_sem] hget_at hget_at0 hget_lt Ext.app Ext.dead getD0 getD1 getD2 List.length_set
theorem snoc_take (l : List Int) {i : Nat} (h : i < l.length) : l.take (i + 1) = l.take i ++ [l[i]] := List.take_succ_eq_append_getElem h
theorem snoc_map (l : List Int) (f : Int → Int) {i : Nat} (h : i < l.length) : (l.take (i + 1)).map f = (l.take i).map f ++ [f l[i]] := by
  rw [List.take_succ_eq_append_getElem h, List.map_append]; rfl
theorem getD_of {l : List Int} {i : Nat} {c : Int} (h : i < l.length) (hc : l[i] = c) : l.getD i 0 = c := by rw [List.getD_eq_getElem?_getD, List.getElem?_eq_getElem h]; exact hc
/-- the strings in a block -/
def strsV : List V → Option (List (List Int))
  | [] => some []
  | .s l :: r => (strsV r).map (l :: ·)
  | _ => none
def strsAt (h : Heap) (b o n : Nat) : Option (List (List Int)) := match hget h b with
  | ⟨0, _, _⟩ => none
  | ⟨_ + 1, _, c⟩ => match ldN c o n with | some l => strsV l | none => none
theorem strsV_eq : ∀ {c : List V} {l : List (List Int)}, strsV c = some l → c = sts l
  | [], l, h => by simp [strsV] at h; subst h; rfl
  | v :: c, l, h => by
    cases v <;> simp [strsV] at h
    obtain ⟨a, h1, rfl⟩ := h
    rw [strsV_eq h1]; rfl
theorem strsV_map (l : List (List Int)) : strsV (sts l) = some l := by
  induction l with
  | nil => rfl
  | cons c l ih =>
    have : sts (c :: l) = .s c :: sts l := rfl
    rw [this, strsV, ih]; rfl
theorem strsAt_eq {h : Heap} {b o n : Nat} {l : List (List Int)} (hs : strsAt h b o n = some l) : ∃ st x c, hget h b = ⟨st + 1, x, c⟩ ∧ ldN c o n = some (sts l) ∧ l.length = n ∧ ∀ i (hi : i < l.length), ldN c (o + i) 1 = some [.s l[i]] := by
  unfold strsAt at hs
  split at hs
  · cases hs
  · rename_i st x c hg
    split at hs
    · rename_i l' hl
      have e := strsV_eq hs
      subst e
      refine ⟨st, x, c, hg, hl, ?_⟩
      unfold ldN at hl
      split at hl
      · rename_i hb
        have hl := Option.some.inj hl
        have hn : l.length = n := by have := congrArg List.length hl; simp [sts_len] at this; omega
        refine ⟨hn, fun i hi => ?_⟩
        have h1 : c[o + i]? = some (.s l[i]) := by
          have := congrArg (fun z : List V => z[i]?) hl
          simp only [List.getElem?_take, List.getElem?_drop, if_pos (show i < n by omega), sts, List.getElem?_map, List.getElem?_eq_getElem hi, Option.map_some] at this
          exact this
        have h2 : o + i < c.length := by omega
        rw [ldN, if_pos (by omega), List.drop_eq_getElem_cons h2]
        rw [List.getElem?_eq_getElem h2] at h1
        rw [Option.some.inj h1]; rfl
      · cases hl
    · cases hs
def rLetterC : Ct := fun args h => match args with | [.i .u8 c] => some (.b (letterB c), h) | _ => none
set_option maxHeartbeats 1000000
set_option maxRecDepth 100000
def rDigitC : Ct := fun args h => match args with | [.i .u8 c] => some (.b (digitB c), h) | _ => none
def rHasC : Ct := fun args h => match args with | [.s l, .i .u8 c] => some (.b (decide (c ∈ l)), h) | _ => none
theorem mem_drop {l : List Int} {i : Nat} {c d : Int} (hlt : i < l.length) (hc : l[i] = d) : c ∈ l.drop i ↔ c = d ∨ c ∈ l.drop (i + 1) := by rw [List.drop_eq_getElem_cons hlt, hc, List.mem_cons]
theorem rHas_ok : CtOk Tryd.prog G0 36 rHasC := by
  refine ct_plain (n := 2) fol sound_nil (by kernel_rfl) Tryd.func36 rfl fun args h v h' hc r xs H hr hx => ?_
  unfold rHasC at hc; split at hc <;> (try split at hc) <;> cases hc
  rename_i l c
  obtain ⟨⟨hs, hl⟩, _⟩ := str_of hx
  refine ⟨rfl, rfl, by simp [renV, bndV], ?_⟩
  simp -implicitDefEqProofs [go_sem, Tryd.f36]
  refine run_inv _ _ _ _ _ (fun (i : Nat) t h1 => i ≤ l.length ∧ get t 0 = .s l ∧ get t 1 = .i .u8 c ∧ get t 5 = .i .i64 i ∧ (c ∈ l.drop i ↔ c ∈ l) ∧ Ext h h1) (fun i => l.length - i) _ (x := 0) ⟨by simp, rfl, rfl, rfl, Iff.rfl, Ext.refl h⟩ ?_
  rintro i t h1 ⟨hi, t0, t1, t5, hd, he⟩ ih
  by_cases hlt : i < l.length
  · obtain ⟨d, hc⟩ : ∃ d, l[i] = d := ⟨_, rfl⟩
    have hdd := mem_drop (c := c) hlt hc
    by_cases c1 : d = c
    · simp -implicitDefEqProofs [go_sem, Tryd.f36, t0, t1, t5, hlt, hc, c1]
      exact ⟨hd.1 (hdd.2 (.inl c1.symm)), he⟩
    · simp -implicitDefEqProofs [go_sem, Tryd.f36, t0, t1, t5, hlt, hc, c1]
      refine ih (i + 1) _ _ (by omega) ⟨by omega, ?_⟩
      have hd' : c ∈ l.drop (i + 1) ↔ c ∈ l := ⟨fun h => hd.1 (hdd.2 (.inr h)), fun h => (hdd.1 (hd.2 h)).resolve_left fun e => c1 e.symm⟩
      simp -implicitDefEqProofs [go_sem, t0, t1, t5, i64_1 hl hlt, he, hd']
  · have e0 : l.drop i = [] := List.drop_eq_nil_of_le (by omega)
    simp -implicitDefEqProofs [go_sem, Tryd.f36, t0, t1, t5, hlt]
    rw [e0] at hd
    exact ⟨fun hm => by simpa using hd.2 hm, he⟩
def rLowerC : Ct := fun args h => match args with | [.s l] => if l.length ≤ 1048576 then some (.s (lowerL l), h) else none | _ => none
theorem rLower_ok : CtOk Tryd.prog G0 34 rLowerC := by
  refine ct_plain (n := 1) fol sound_nil (by kernel_rfl) Tryd.func34 rfl fun args h v h' hc r xs H hr hx => ?_
  unfold rLowerC at hc; split at hc <;> (try split at hc) <;> cases hc
  rename_i l hl
  obtain ⟨⟨hs, _⟩, _⟩ := str_of hx
  refine ⟨rfl, rfl, by simp [renV, bndV], ?_⟩
  simp -implicitDefEqProofs [go_sem, Tryd.f34]
  refine run_inv _ _ _ _ _ (fun (x : Nat × Nat × List Int) t h1 => x.1 ≤ l.length ∧ get t 0 = .s l ∧ get t 4 = .i .i64 x.1 ∧ get t 3 = .sl x.2.1 0 x.1 1 ∧ hget h1 x.2.1 = ⟨2, false, bts x.2.2⟩ ∧ h.length ≤ x.2.1 ∧ x.2.1 < h1.length ∧ Ext h h1 ∧ x.2.2 = lowerL (l.take x.1)) (fun x => l.length - x.1) _ (x := (0, h.length, [])) ⟨by simp, rfl, rfl, rfl, by simp -implicitDefEqProofs [go_sem, bts_nil], by simp, by simp, by simp -implicitDefEqProofs [go_sem], rfl⟩ ?_
  rintro ⟨i, m, acc⟩ t h1 ⟨hi, t0, t4, t3, hg, hm, hm', he, ha⟩ ih
  simp only at hi t0 t4 t3 hg hm hm' ha
  have hal : acc.length = i := by rw [ha]; simp [lowerL]; omega
  have hmn : m ≠ h1.length := by omega
  have hi6 : i < 1152921504606846976 := by omega
  by_cases hlt : i < l.length
  · obtain ⟨d, hc⟩ : ∃ d, l[i] = d := ⟨_, rfl⟩
    have hd := hs d (hc ▸ List.getElem_mem hlt)
    have e1 : (i + 1) ≤ 1099511627776 := by omega
    have hsn : lowerL (l.take (i + 1)) = acc ++ [lowB d] := by rw [ha, ← hc]; exact snoc_map l lowB hlt
    by_cases c1 : 65 ≤ d <;> by_cases c2 : d ≤ 90
    · have c3 : (d + 32) % 256 = d + 32 := by omega
      simp -implicitDefEqProofs [go_sem, Tryd.f34, t0, t3, t4, hlt, hc, c1, c2, c3, hg, hm', ldN_b hal, e1, hmn]
      refine ih (i + 1, h1.length + 1, acc ++ [lowB d]) _ _ (by simp; omega) ⟨hlt, ?_⟩
      simp -implicitDefEqProofs [go_sem, t0, t3, t4, hsn, lowB, c1, c2, i64_n hi6, he, hm]; omega
    all_goals
      simp -implicitDefEqProofs [go_sem, Tryd.f34, t0, t3, t4, hlt, hc, c1, c2, hg, hm', ldN_b hal, e1, hmn]
      refine ih (i + 1, h1.length + 1, acc ++ [lowB d]) _ _ (by simp; omega) ⟨hlt, ?_⟩
      simp -implicitDefEqProofs [go_sem, t0, t3, t4, hsn, lowB, c1, c2, i64_n hi6, he, hm]; omega
  · have e : i = l.length := by omega
    rw [e, List.take_length] at ha
    simp -implicitDefEqProofs [go_sem, Tryd.f34, t0, t3, t4, hlt, hg, hm', ldN_b (hal.trans e), e, he]
    exact ha
end GoD

/-! Texts of ASCII as the document answers them: lists. -/
namespace GoD
open Go Go.Proofs
set_option linter.unusedVariables false
set_option linter.unusedSimpArgs false
set_option maxHeartbeats 1000000
set_option maxRecDepth 100000
def rSameC : Ct := fun args h => match args with | [.s l, .s m] => if l.length ≤ 1048576 ∧ m.length ≤ 1048576 then some (.b (decide (lowerL l = lowerL m)), h) else none | _ => none
def rInC : Ct := fun args h => match args with | [.s l, .sl b o n 1] => (match strsAt h b o n with | some y => some (.b (decide (l ∈ y)), h) | none => none) | _ => none
theorem mem_drop' {α : Type} {l : List α} {i : Nat} {c d : α} (hlt : i < l.length) (hc : l[i] = d) : c ∈ l.drop i ↔ c = d ∨ c ∈ l.drop (i + 1) := by rw [List.drop_eq_getElem_cons hlt, hc, List.mem_cons]
def rSplitC : Ct := fun args h => match args with | [.s l, .i .u8 c] => if l.length ≤ 1048576 then some (.sl h.length 0 (splitL c l).length 1, h ++ [⟨2, false, sts (splitL c l)⟩]) else none | _ => none
theorem rSplit_ok : CtOk Tryd.prog G0 45 rSplitC := by
  refine ct_run (n := 2) fol sound_nil (by kernel_rfl) Tryd.func45 rfl fun args h v h' hc r xs H hr hx => ?_
  unfold rSplitC at hc; split at hc <;> (try split at hc) <;> cases hc
  rename_i l c hl
  obtain ⟨⟨hs, _⟩, _⟩ := str_of hx
  refine ⟨rfl, ?_⟩
  simp -implicitDefEqProofs [go_sem, Tryd.f45]
  refine run_inv _ _ _ _ _ (fun (x : Nat × Nat × Nat × List (List Int)) t h1 => x.1 ≤ l.length ∧ x.2.1 ≤ x.1 ∧ get t 0 = .s l ∧ get t 1 = .i .u8 c ∧ get t 7 = .i .i64 x.1 ∧ get t 6 = .i .i64 x.2.1 ∧ get t 5 = .sl x.2.2.1 0 x.2.2.2.length 1 ∧ hget h1 x.2.2.1 = ⟨2, false, sts x.2.2.2⟩ ∧ h.length ≤ x.2.2.1 ∧ x.2.2.1 < h1.length ∧ Ext h h1 ∧ c ∉ (l.drop x.2.1).take (x.1 - x.2.1) ∧ x.2.2.2 ++ splitL c (l.drop x.2.1) = splitL c l) (fun x => l.length - x.1) _ (x := (0, 0, h.length + 1, [])) ⟨by simp, by simp, rfl, rfl, rfl, rfl, rfl, by simp -implicitDefEqProofs [go_sem, sts_nil], by simp, by simp, by simp -implicitDefEqProofs [go_sem], by simp, by simp⟩ ?_
  rintro ⟨i, f, m, acc⟩ t h1 ⟨hi, hf, t0, t1, t7, t6, t5, hg, hm, hm', he, hno, ha⟩ ih
  simp only at hi hf t0 t1 t7 t6 t5 hg hm hm' hno ha
  have hal : acc.length ≤ l.length + 1 := by have := congrArg List.length ha; have := splitL_len c l; simp at *; omega
  have hmn : m ≠ h1.length := by omega
  have hi6 : i < 1152921504606846976 := by omega
  have e1 : (acc.length + 1) * 16 ≤ 1099511627776 := by omega
  by_cases hlt : i < l.length
  · obtain ⟨d, hc⟩ : ∃ d, l[i] = d := ⟨_, rfl⟩
    by_cases c1 : d = c
    · subst c1
      simp -implicitDefEqProofs [go_sem, Tryd.f45, t0, t1, t7, t6, t5, hlt, hf, hi, hc, hg, hm', ldN_s rfl, e1, hmn]
      refine ih (i + 1, i + 1, h1.length + 1, acc ++ [(l.drop f).take (i - f)]) _ _ (by simp; omega) ⟨hlt, by simp, ?_⟩
      simp -implicitDefEqProofs [go_sem, t0, t1, t7, t6, t5, i64_n hi6, he, hm]
      refine ⟨by omega, ?_⟩
      rw [← ha, cut_at hf hlt, hc, splitL_cons hno, ← hc, ← cut_at hf hlt]
    · simp -implicitDefEqProofs [go_sem, Tryd.f45, t0, t1, t7, t6, t5, hlt, hc, c1]
      refine ih (i + 1, f, m, acc) _ _ (by simp; omega) ⟨hlt, by simp; omega, ?_⟩
      simp -implicitDefEqProofs [go_sem, t0, t1, t7, t6, t5, i64_n hi6, he, hm, hg, hm', cut_snoc hf hlt, hno, hc]
      exact ⟨fun e => c1 e.symm, ha⟩
  · have e : i = l.length := by omega
    simp -implicitDefEqProofs [go_sem, Tryd.f45, t0, t1, t7, t6, t5, hlt, hg, hm', ldN_s rfl, e1, hmn, Nat.le_trans hf hi, e]
    rw [e, cut_all] at hno
    rw [splitL_none hno] at ha
    have ha' := congrArg List.length ha
    rw [← ha]
    simp only [List.length_append, List.length_singleton]
    exact Trim.sl (by simp -implicitDefEqProofs [go_sem, he, hm]) (by have := he.1; omega) (by simp) (by simp -implicitDefEqProofs [go_sem]) (by simp -implicitDefEqProofs [go_sem])
end GoD

/-! Texts of ASCII as the document answers them: what stands between blanks; decimals. -/
namespace GoD
open Go Go.Proofs
set_option linter.unusedVariables false
set_option linter.unusedSimpArgs false
set_option maxHeartbeats 4000000
set_option maxRecDepth 100000
def rBlanksC : Ct := fun args h => match args with | [.s l] => if l.length ≤ 1048576 then some (.sl h.length 0 (blanksL l).length 1, h ++ [⟨2, false, sts (blanksL l)⟩]) else none | _ => none
end GoD
