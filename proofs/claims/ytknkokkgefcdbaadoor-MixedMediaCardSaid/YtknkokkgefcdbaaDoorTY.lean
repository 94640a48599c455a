import Derived.Test.YtknkokkgefcdbaaDoorDC
import Derived.Test.YtknkokkgefcdbaaDoorProg
/-! What the program's types are. -/
namespace GoD.TY
open Go GoD Go.Proofs
theorem c0 : Tryd.prog.cellsOf 0 = 1 := by kernel_rfl
theorem b0 : Tryd.prog.bytesOf 0 = 0 := by kernel_rfl
theorem c1 : Tryd.prog.cellsOf 1 = 1 := by kernel_rfl
theorem b1 : Tryd.prog.bytesOf 1 = 8 := by kernel_rfl
theorem c2 : Tryd.prog.cellsOf 2 = 1 := by kernel_rfl
theorem b2 : Tryd.prog.bytesOf 2 = 8 := by kernel_rfl
theorem c3 : Tryd.prog.cellsOf 3 = 1 := by kernel_rfl
theorem b3 : Tryd.prog.bytesOf 3 = 8 := by kernel_rfl
theorem c4 : Tryd.prog.cellsOf 4 = 1 := by kernel_rfl
theorem b4 : Tryd.prog.bytesOf 4 = 1 := by kernel_rfl
theorem c5 : Tryd.prog.cellsOf 5 = 1 := by kernel_rfl
theorem b5 : Tryd.prog.bytesOf 5 = 1 := by kernel_rfl
theorem c6 : Tryd.prog.cellsOf 6 = 1 := by kernel_rfl
theorem b6 : Tryd.prog.bytesOf 6 = 1 := by kernel_rfl
theorem c7 : Tryd.prog.cellsOf 7 = 4 := by kernel_rfl
theorem b7 : Tryd.prog.bytesOf 7 = 24 := by kernel_rfl
theorem c8 : Tryd.prog.cellsOf 8 = 4 := by kernel_rfl
theorem b8 : Tryd.prog.bytesOf 8 = 24 := by kernel_rfl
theorem c9 : Tryd.prog.cellsOf 9 = 1 := by kernel_rfl
theorem b9 : Tryd.prog.bytesOf 9 = 16 := by kernel_rfl
theorem c10 : Tryd.prog.cellsOf 10 = 1 := by kernel_rfl
theorem b10 : Tryd.prog.bytesOf 10 = 16 := by kernel_rfl
theorem c11 : Tryd.prog.cellsOf 11 = 1 := by kernel_rfl
theorem b11 : Tryd.prog.bytesOf 11 = 16 := by kernel_rfl
theorem c12 : Tryd.prog.cellsOf 12 = 1 := by kernel_rfl
theorem b12 : Tryd.prog.bytesOf 12 = 8 := by kernel_rfl
theorem c13 : Tryd.prog.cellsOf 13 = 2 := by kernel_rfl
theorem b13 : Tryd.prog.bytesOf 13 = 24 := by kernel_rfl
theorem c14 : Tryd.prog.cellsOf 14 = 2 := by kernel_rfl
theorem b14 : Tryd.prog.bytesOf 14 = 24 := by kernel_rfl
theorem c15 : Tryd.prog.cellsOf 15 = 1 := by kernel_rfl
theorem b15 : Tryd.prog.bytesOf 15 = 8 := by kernel_rfl
theorem c16 : Tryd.prog.cellsOf 16 = 1 := by kernel_rfl
theorem b16 : Tryd.prog.bytesOf 16 = 8 := by kernel_rfl
theorem c17 : Tryd.prog.cellsOf 17 = 1 := by kernel_rfl
theorem b17 : Tryd.prog.bytesOf 17 = 8 := by kernel_rfl
theorem c18 : Tryd.prog.cellsOf 18 = 1 := by kernel_rfl
theorem b18 : Tryd.prog.bytesOf 18 = 8 := by kernel_rfl
theorem c19 : Tryd.prog.cellsOf 19 = 1 := by kernel_rfl
theorem b19 : Tryd.prog.bytesOf 19 = 8 := by kernel_rfl
theorem c20 : Tryd.prog.cellsOf 20 = 1 := by kernel_rfl
theorem b20 : Tryd.prog.bytesOf 20 = 16 := by kernel_rfl
theorem c21 : Tryd.prog.cellsOf 21 = 1 := by kernel_rfl
theorem b21 : Tryd.prog.bytesOf 21 = 4 := by kernel_rfl
theorem c22 : Tryd.prog.cellsOf 22 = 10 := by kernel_rfl
theorem b22 : Tryd.prog.bytesOf 22 = 136 := by kernel_rfl
theorem c23 : Tryd.prog.cellsOf 23 = 10 := by kernel_rfl
theorem b23 : Tryd.prog.bytesOf 23 = 136 := by kernel_rfl
theorem c24 : Tryd.prog.cellsOf 24 = 1 := by kernel_rfl
theorem b24 : Tryd.prog.bytesOf 24 = 0 := by kernel_rfl
theorem c25 : Tryd.prog.cellsOf 25 = 1 := by kernel_rfl
theorem b25 : Tryd.prog.bytesOf 25 = 8 := by kernel_rfl
theorem c26 : Tryd.prog.cellsOf 26 = 1 := by kernel_rfl
theorem b26 : Tryd.prog.bytesOf 26 = 8 := by kernel_rfl
theorem c27 : Tryd.prog.cellsOf 27 = 1 := by kernel_rfl
theorem b27 : Tryd.prog.bytesOf 27 = 8 := by kernel_rfl
theorem c28 : Tryd.prog.cellsOf 28 = 3 := by kernel_rfl
theorem b28 : Tryd.prog.bytesOf 28 = 40 := by kernel_rfl
theorem c29 : Tryd.prog.cellsOf 29 = 3 := by kernel_rfl
theorem b29 : Tryd.prog.bytesOf 29 = 40 := by kernel_rfl
theorem c30 : Tryd.prog.cellsOf 30 = 1 := by kernel_rfl
theorem b30 : Tryd.prog.bytesOf 30 = 8 := by kernel_rfl
theorem c31 : Tryd.prog.cellsOf 31 = 1 := by kernel_rfl
theorem b31 : Tryd.prog.bytesOf 31 = 8 := by kernel_rfl
theorem c32 : Tryd.prog.cellsOf 32 = 1 := by kernel_rfl
theorem b32 : Tryd.prog.bytesOf 32 = 4 := by kernel_rfl
theorem c33 : Tryd.prog.cellsOf 33 = 1 := by kernel_rfl
theorem b33 : Tryd.prog.bytesOf 33 = 0 := by kernel_rfl
theorem c34 : Tryd.prog.cellsOf 34 = 1 := by kernel_rfl
theorem b34 : Tryd.prog.bytesOf 34 = 8 := by kernel_rfl
theorem c35 : Tryd.prog.cellsOf 35 = 1 := by kernel_rfl
theorem b35 : Tryd.prog.bytesOf 35 = 8 := by kernel_rfl
theorem c36 : Tryd.prog.cellsOf 36 = 1 := by kernel_rfl
theorem b36 : Tryd.prog.bytesOf 36 = 8 := by kernel_rfl
theorem c37 : Tryd.prog.cellsOf 37 = 1 := by kernel_rfl
theorem b37 : Tryd.prog.bytesOf 37 = 8 := by kernel_rfl
theorem c38 : Tryd.prog.cellsOf 38 = 1 := by kernel_rfl
theorem b38 : Tryd.prog.bytesOf 38 = 8 := by kernel_rfl
theorem c39 : Tryd.prog.cellsOf 39 = 1 := by kernel_rfl
theorem b39 : Tryd.prog.bytesOf 39 = 24 := by kernel_rfl
theorem c40 : Tryd.prog.cellsOf 40 = 1 := by kernel_rfl
theorem b40 : Tryd.prog.bytesOf 40 = 8 := by kernel_rfl
theorem c41 : Tryd.prog.cellsOf 41 = 1 := by kernel_rfl
theorem b41 : Tryd.prog.bytesOf 41 = 8 := by kernel_rfl
theorem c42 : Tryd.prog.cellsOf 42 = 1 := by kernel_rfl
theorem b42 : Tryd.prog.bytesOf 42 = 0 := by kernel_rfl
theorem c43 : Tryd.prog.cellsOf 43 = 1 := by kernel_rfl
theorem b43 : Tryd.prog.bytesOf 43 = 8 := by kernel_rfl
theorem c44 : Tryd.prog.cellsOf 44 = 1 := by kernel_rfl
theorem b44 : Tryd.prog.bytesOf 44 = 8 := by kernel_rfl
theorem c45 : Tryd.prog.cellsOf 45 = 1 := by kernel_rfl
theorem b45 : Tryd.prog.bytesOf 45 = 8 := by kernel_rfl
theorem c46 : Tryd.prog.cellsOf 46 = 1 := by kernel_rfl
theorem b46 : Tryd.prog.bytesOf 46 = 8 := by kernel_rfl
theorem c47 : Tryd.prog.cellsOf 47 = 1 := by kernel_rfl
theorem b47 : Tryd.prog.bytesOf 47 = 8 := by kernel_rfl
theorem c48 : Tryd.prog.cellsOf 48 = 1 := by kernel_rfl
theorem b48 : Tryd.prog.bytesOf 48 = 0 := by kernel_rfl
theorem c49 : Tryd.prog.cellsOf 49 = 1 := by kernel_rfl
theorem b49 : Tryd.prog.bytesOf 49 = 8 := by kernel_rfl
theorem c50 : Tryd.prog.cellsOf 50 = 1 := by kernel_rfl
theorem b50 : Tryd.prog.bytesOf 50 = 8 := by kernel_rfl
theorem c51 : Tryd.prog.cellsOf 51 = 1 := by kernel_rfl
theorem b51 : Tryd.prog.bytesOf 51 = 8 := by kernel_rfl
theorem c52 : Tryd.prog.cellsOf 52 = 1 := by kernel_rfl
theorem b52 : Tryd.prog.bytesOf 52 = 8 := by kernel_rfl
theorem c53 : Tryd.prog.cellsOf 53 = 1 := by kernel_rfl
theorem b53 : Tryd.prog.bytesOf 53 = 8 := by kernel_rfl
theorem c54 : Tryd.prog.cellsOf 54 = 1 := by kernel_rfl
theorem b54 : Tryd.prog.bytesOf 54 = 8 := by kernel_rfl
theorem c55 : Tryd.prog.cellsOf 55 = 1 := by kernel_rfl
theorem b55 : Tryd.prog.bytesOf 55 = 8 := by kernel_rfl
theorem c56 : Tryd.prog.cellsOf 56 = 1 := by kernel_rfl
theorem b56 : Tryd.prog.bytesOf 56 = 8 := by kernel_rfl
theorem c57 : Tryd.prog.cellsOf 57 = 1 := by kernel_rfl
theorem b57 : Tryd.prog.bytesOf 57 = 8 := by kernel_rfl
theorem c58 : Tryd.prog.cellsOf 58 = 1 := by kernel_rfl
theorem b58 : Tryd.prog.bytesOf 58 = 8 := by kernel_rfl
theorem c59 : Tryd.prog.cellsOf 59 = 1 := by kernel_rfl
theorem b59 : Tryd.prog.bytesOf 59 = 8 := by kernel_rfl
theorem c60 : Tryd.prog.cellsOf 60 = 1 := by kernel_rfl
theorem b60 : Tryd.prog.bytesOf 60 = 8 := by kernel_rfl
theorem c61 : Tryd.prog.cellsOf 61 = 1 := by kernel_rfl
theorem b61 : Tryd.prog.bytesOf 61 = 8 := by kernel_rfl
theorem c62 : Tryd.prog.cellsOf 62 = 1 := by kernel_rfl
theorem b62 : Tryd.prog.bytesOf 62 = 0 := by kernel_rfl
theorem c63 : Tryd.prog.cellsOf 63 = 1 := by kernel_rfl
theorem b63 : Tryd.prog.bytesOf 63 = 8 := by kernel_rfl
theorem c64 : Tryd.prog.cellsOf 64 = 1 := by kernel_rfl
theorem b64 : Tryd.prog.bytesOf 64 = 8 := by kernel_rfl
theorem c65 : Tryd.prog.cellsOf 65 = 1 := by kernel_rfl
theorem b65 : Tryd.prog.bytesOf 65 = 24 := by kernel_rfl
theorem c66 : Tryd.prog.cellsOf 66 = 1 := by kernel_rfl
theorem b66 : Tryd.prog.bytesOf 66 = 8 := by kernel_rfl
theorem c67 : Tryd.prog.cellsOf 67 = 1 := by kernel_rfl
theorem b67 : Tryd.prog.bytesOf 67 = 8 := by kernel_rfl
theorem c68 : Tryd.prog.cellsOf 68 = 1 := by kernel_rfl
theorem b68 : Tryd.prog.bytesOf 68 = 0 := by kernel_rfl
theorem c69 : Tryd.prog.cellsOf 69 = 1 := by kernel_rfl
theorem b69 : Tryd.prog.bytesOf 69 = 8 := by kernel_rfl
theorem c70 : Tryd.prog.cellsOf 70 = 1 := by kernel_rfl
theorem b70 : Tryd.prog.bytesOf 70 = 8 := by kernel_rfl
theorem c71 : Tryd.prog.cellsOf 71 = 1 := by kernel_rfl
theorem b71 : Tryd.prog.bytesOf 71 = 8 := by kernel_rfl
theorem c72 : Tryd.prog.cellsOf 72 = 1 := by kernel_rfl
theorem b72 : Tryd.prog.bytesOf 72 = 8 := by kernel_rfl
theorem c73 : Tryd.prog.cellsOf 73 = 1 := by kernel_rfl
theorem b73 : Tryd.prog.bytesOf 73 = 8 := by kernel_rfl
theorem c74 : Tryd.prog.cellsOf 74 = 1 := by kernel_rfl
theorem b74 : Tryd.prog.bytesOf 74 = 8 := by kernel_rfl
theorem c75 : Tryd.prog.cellsOf 75 = 1 := by kernel_rfl
theorem b75 : Tryd.prog.bytesOf 75 = 8 := by kernel_rfl
theorem c76 : Tryd.prog.cellsOf 76 = 1 := by kernel_rfl
theorem b76 : Tryd.prog.bytesOf 76 = 8 := by kernel_rfl
theorem c77 : Tryd.prog.cellsOf 77 = 1 := by kernel_rfl
theorem b77 : Tryd.prog.bytesOf 77 = 8 := by kernel_rfl
theorem c78 : Tryd.prog.cellsOf 78 = 1 := by kernel_rfl
theorem b78 : Tryd.prog.bytesOf 78 = 0 := by kernel_rfl
theorem c79 : Tryd.prog.cellsOf 79 = 1 := by kernel_rfl
theorem b79 : Tryd.prog.bytesOf 79 = 8 := by kernel_rfl
theorem c80 : Tryd.prog.cellsOf 80 = 1 := by kernel_rfl
theorem b80 : Tryd.prog.bytesOf 80 = 8 := by kernel_rfl
theorem c81 : Tryd.prog.cellsOf 81 = 1 := by kernel_rfl
theorem b81 : Tryd.prog.bytesOf 81 = 8 := by kernel_rfl
theorem c82 : Tryd.prog.cellsOf 82 = 1 := by kernel_rfl
theorem b82 : Tryd.prog.bytesOf 82 = 0 := by kernel_rfl
theorem c83 : Tryd.prog.cellsOf 83 = 1 := by kernel_rfl
theorem b83 : Tryd.prog.bytesOf 83 = 8 := by kernel_rfl
theorem c84 : Tryd.prog.cellsOf 84 = 1 := by kernel_rfl
theorem b84 : Tryd.prog.bytesOf 84 = 8 := by kernel_rfl
theorem c85 : Tryd.prog.cellsOf 85 = 1 := by kernel_rfl
theorem b85 : Tryd.prog.bytesOf 85 = 8 := by kernel_rfl
theorem c87 : Tryd.prog.cellsOf 87 = 2 := by kernel_rfl
theorem b87 : Tryd.prog.bytesOf 87 = 2 := by kernel_rfl
theorem c88 : Tryd.prog.cellsOf 88 = 2 := by kernel_rfl
theorem b88 : Tryd.prog.bytesOf 88 = 2 := by kernel_rfl
theorem c89 : Tryd.prog.cellsOf 89 = 32 := by kernel_rfl
theorem b89 : Tryd.prog.bytesOf 89 = 32 := by kernel_rfl
theorem c90 : Tryd.prog.cellsOf 90 = 1 := by kernel_rfl
theorem b90 : Tryd.prog.bytesOf 90 = 0 := by kernel_rfl
theorem c91 : Tryd.prog.cellsOf 91 = 1 := by kernel_rfl
theorem b91 : Tryd.prog.bytesOf 91 = 8 := by kernel_rfl
theorem c92 : Tryd.prog.cellsOf 92 = 1 := by kernel_rfl
theorem b92 : Tryd.prog.bytesOf 92 = 8 := by kernel_rfl
theorem c93 : Tryd.prog.cellsOf 93 = 4 := by kernel_rfl
theorem b93 : Tryd.prog.bytesOf 93 = 40 := by kernel_rfl
theorem c94 : Tryd.prog.cellsOf 94 = 4 := by kernel_rfl
theorem b94 : Tryd.prog.bytesOf 94 = 40 := by kernel_rfl
theorem c98 : Tryd.prog.cellsOf 98 = 1 := by kernel_rfl
theorem b98 : Tryd.prog.bytesOf 98 = 8 := by kernel_rfl
theorem c99 : Tryd.prog.cellsOf 99 = 1 := by kernel_rfl
theorem b99 : Tryd.prog.bytesOf 99 = 1 := by kernel_rfl
theorem c100 : Tryd.prog.cellsOf 100 = 1 := by kernel_rfl
theorem b100 : Tryd.prog.bytesOf 100 = 1 := by kernel_rfl
theorem c101 : Tryd.prog.cellsOf 101 = 1 := by kernel_rfl
theorem b101 : Tryd.prog.bytesOf 101 = 8 := by kernel_rfl
theorem c102 : Tryd.prog.cellsOf 102 = 1 := by kernel_rfl
theorem b102 : Tryd.prog.bytesOf 102 = 8 := by kernel_rfl
theorem c103 : Tryd.prog.cellsOf 103 = 1 := by kernel_rfl
theorem b103 : Tryd.prog.bytesOf 103 = 4 := by kernel_rfl
theorem c104 : Tryd.prog.cellsOf 104 = 1 := by kernel_rfl
theorem b104 : Tryd.prog.bytesOf 104 = 4 := by kernel_rfl
theorem c105 : Tryd.prog.cellsOf 105 = 11 := by kernel_rfl
theorem b105 : Tryd.prog.bytesOf 105 = 48 := by kernel_rfl
theorem c106 : Tryd.prog.cellsOf 106 = 11 := by kernel_rfl
theorem b106 : Tryd.prog.bytesOf 106 = 48 := by kernel_rfl
theorem c107 : Tryd.prog.cellsOf 107 = 1 := by kernel_rfl
theorem b107 : Tryd.prog.bytesOf 107 = 8 := by kernel_rfl
theorem z1 : zeroT Tryd.prog 1 = some [.c .nilFunc] := by kernel_rfl
theorem z2 : zeroT Tryd.prog 2 = some [.i .i64 (0)] := by kernel_rfl
theorem z3 : zeroT Tryd.prog 3 = some [.i .i64 (0)] := by kernel_rfl
theorem z4 : zeroT Tryd.prog 4 = some [.b false] := by kernel_rfl
theorem z5 : zeroT Tryd.prog 5 = some [.i .u8 (0)] := by kernel_rfl
theorem z6 : zeroT Tryd.prog 6 = some [.i .u8 (0)] := by kernel_rfl
theorem z7 : zeroT Tryd.prog 7 = some [.i .i64 (0), .i .i64 (0), .b false, .i .u8 (0)] := by kernel_rfl
theorem f7 : fieldsT Tryd.prog 7 = some [(0, 1, 2), (1, 1, 3), (2, 1, 4), (3, 1, 6)] := by kernel_rfl
theorem z8 : zeroT Tryd.prog 8 = some [.i .i64 (0), .i .i64 (0), .b false, .i .u8 (0)] := by kernel_rfl
theorem f8 : fieldsT Tryd.prog 8 = some [(0, 1, 2), (1, 1, 3), (2, 1, 4), (3, 1, 6)] := by kernel_rfl
theorem z9 : zeroT Tryd.prog 9 = some [.s []] := by kernel_rfl
theorem z10 : zeroT Tryd.prog 10 = some [.s []] := by kernel_rfl
theorem z11 : zeroT Tryd.prog 11 = some [.s []] := by kernel_rfl
theorem z12 : zeroT Tryd.prog 12 = some [.i .u64 (0)] := by kernel_rfl
theorem z13 : zeroT Tryd.prog 13 = some [.s [], .i .u64 (0)] := by kernel_rfl
theorem f13 : fieldsT Tryd.prog 13 = some [(0, 1, 9), (1, 1, 12)] := by kernel_rfl
theorem z14 : zeroT Tryd.prog 14 = some [.s [], .i .u64 (0)] := by kernel_rfl
theorem f14 : fieldsT Tryd.prog 14 = some [(0, 1, 9), (1, 1, 12)] := by kernel_rfl
theorem z15 : zeroT Tryd.prog 15 = some [.c (.pointer none)] := by kernel_rfl
theorem z16 : zeroT Tryd.prog 16 = some [.c (.pointer none)] := by kernel_rfl
theorem z17 : zeroT Tryd.prog 17 = some [.c (.pointer none)] := by kernel_rfl
theorem z18 : zeroT Tryd.prog 18 = some [.c (.pointer none)] := by kernel_rfl
theorem f18 : fieldsT Tryd.prog 18 = some [(0, 1, 17)] := by kernel_rfl
theorem z19 : zeroT Tryd.prog 19 = some [.c (.pointer none)] := by kernel_rfl
theorem f19 : fieldsT Tryd.prog 19 = some [(0, 1, 17)] := by kernel_rfl
theorem z20 : zeroT Tryd.prog 20 = some [.c .nilIface] := by kernel_rfl
theorem z21 : zeroT Tryd.prog 21 = some [.i .i32 (0)] := by kernel_rfl
theorem z22 : zeroT Tryd.prog 22 = some [.s [], .s [], .s [], .s [], .i .i64 (0), .s [], .b false, .s [], .b false, .s []] := by kernel_rfl
theorem f22 : fieldsT Tryd.prog 22 = some [(0, 1, 9), (1, 1, 9), (2, 1, 9), (3, 1, 9), (4, 1, 3), (5, 1, 9), (6, 1, 4), (7, 1, 9), (8, 1, 4), (9, 1, 9)] := by kernel_rfl
theorem z23 : zeroT Tryd.prog 23 = some [.s [], .s [], .s [], .s [], .i .i64 (0), .s [], .b false, .s [], .b false, .s []] := by kernel_rfl
theorem f23 : fieldsT Tryd.prog 23 = some [(0, 1, 9), (1, 1, 9), (2, 1, 9), (3, 1, 9), (4, 1, 3), (5, 1, 9), (6, 1, 4), (7, 1, 9), (8, 1, 4), (9, 1, 9)] := by kernel_rfl
theorem z25 : zeroT Tryd.prog 25 = some [.c .nilFunc] := by kernel_rfl
theorem z26 : zeroT Tryd.prog 26 = some [.c .nilFunc] := by kernel_rfl
theorem z27 : zeroT Tryd.prog 27 = some [.c .nilFunc] := by kernel_rfl
theorem z28 : zeroT Tryd.prog 28 = some [.s [], .s [], .i .i64 (0)] := by kernel_rfl
theorem f28 : fieldsT Tryd.prog 28 = some [(0, 1, 9), (1, 1, 9), (2, 1, 3)] := by kernel_rfl
theorem z29 : zeroT Tryd.prog 29 = some [.s [], .s [], .i .i64 (0)] := by kernel_rfl
theorem f29 : fieldsT Tryd.prog 29 = some [(0, 1, 9), (1, 1, 9), (2, 1, 3)] := by kernel_rfl
theorem z30 : zeroT Tryd.prog 30 = some [.c .nilFunc] := by kernel_rfl
theorem z31 : zeroT Tryd.prog 31 = some [.c .nilFunc] := by kernel_rfl
theorem z32 : zeroT Tryd.prog 32 = some [.i .u32 (0)] := by kernel_rfl
theorem z34 : zeroT Tryd.prog 34 = some [.c .nilFunc] := by kernel_rfl
theorem z35 : zeroT Tryd.prog 35 = some [.c .nilFunc] := by kernel_rfl
theorem z36 : zeroT Tryd.prog 36 = some [.c .nilFunc] := by kernel_rfl
theorem z37 : zeroT Tryd.prog 37 = some [.c .nilFunc] := by kernel_rfl
theorem z38 : zeroT Tryd.prog 38 = some [.c .nilFunc] := by kernel_rfl
theorem z39 : zeroT Tryd.prog 39 = some [.c (.slice none 0 0)] := by kernel_rfl
theorem z40 : zeroT Tryd.prog 40 = some [.c .nilFunc] := by kernel_rfl
theorem z41 : zeroT Tryd.prog 41 = some [.c .nilFunc] := by kernel_rfl
theorem z43 : zeroT Tryd.prog 43 = some [.c .nilFunc] := by kernel_rfl
theorem z44 : zeroT Tryd.prog 44 = some [.c .nilFunc] := by kernel_rfl
theorem z45 : zeroT Tryd.prog 45 = some [.c .nilFunc] := by kernel_rfl
theorem z46 : zeroT Tryd.prog 46 = some [.c .nilFunc] := by kernel_rfl
theorem z47 : zeroT Tryd.prog 47 = some [.c .nilFunc] := by kernel_rfl
theorem z49 : zeroT Tryd.prog 49 = some [.c .nilFunc] := by kernel_rfl
theorem z50 : zeroT Tryd.prog 50 = some [.c .nilFunc] := by kernel_rfl
theorem z51 : zeroT Tryd.prog 51 = some [.c .nilFunc] := by kernel_rfl
theorem z52 : zeroT Tryd.prog 52 = some [.c .nilFunc] := by kernel_rfl
theorem z53 : zeroT Tryd.prog 53 = some [.c .nilFunc] := by kernel_rfl
theorem z54 : zeroT Tryd.prog 54 = some [.c .nilFunc] := by kernel_rfl
theorem z55 : zeroT Tryd.prog 55 = some [.c (.pointer none)] := by kernel_rfl
theorem z56 : zeroT Tryd.prog 56 = some [.c .nilFunc] := by kernel_rfl
theorem z57 : zeroT Tryd.prog 57 = some [.c .nilFunc] := by kernel_rfl
theorem z58 : zeroT Tryd.prog 58 = some [.i .u64 (0)] := by kernel_rfl
theorem z59 : zeroT Tryd.prog 59 = some [.c .nilFunc] := by kernel_rfl
theorem z60 : zeroT Tryd.prog 60 = some [.c .nilFunc] := by kernel_rfl
theorem z61 : zeroT Tryd.prog 61 = some [.i .u64 (0)] := by kernel_rfl
theorem z63 : zeroT Tryd.prog 63 = some [.c .nilFunc] := by kernel_rfl
theorem z64 : zeroT Tryd.prog 64 = some [.c .nilFunc] := by kernel_rfl
theorem z65 : zeroT Tryd.prog 65 = some [.c (.slice none 0 0)] := by kernel_rfl
theorem z66 : zeroT Tryd.prog 66 = some [.c .nilFunc] := by kernel_rfl
theorem z67 : zeroT Tryd.prog 67 = some [.c .nilFunc] := by kernel_rfl
theorem z69 : zeroT Tryd.prog 69 = some [.c .nilFunc] := by kernel_rfl
theorem z70 : zeroT Tryd.prog 70 = some [.c .nilFunc] := by kernel_rfl
theorem z71 : zeroT Tryd.prog 71 = some [.c .nilFunc] := by kernel_rfl
theorem z72 : zeroT Tryd.prog 72 = some [.c .nilFunc] := by kernel_rfl
theorem z73 : zeroT Tryd.prog 73 = some [.c .nilFunc] := by kernel_rfl
theorem z74 : zeroT Tryd.prog 74 = some [.c .nilFunc] := by kernel_rfl
theorem z75 : zeroT Tryd.prog 75 = some [.c .nilFunc] := by kernel_rfl
theorem z76 : zeroT Tryd.prog 76 = some [.c .nilFunc] := by kernel_rfl
theorem z77 : zeroT Tryd.prog 77 = some [.c .nilFunc] := by kernel_rfl
theorem z79 : zeroT Tryd.prog 79 = some [.c .nilFunc] := by kernel_rfl
theorem z80 : zeroT Tryd.prog 80 = some [.c .nilFunc] := by kernel_rfl
theorem z81 : zeroT Tryd.prog 81 = some [.c .nilFunc] := by kernel_rfl
theorem z83 : zeroT Tryd.prog 83 = some [.c .nilFunc] := by kernel_rfl
theorem z84 : zeroT Tryd.prog 84 = some [.c .nilFunc] := by kernel_rfl
theorem z85 : zeroT Tryd.prog 85 = some [.c .nilFunc] := by kernel_rfl
theorem z87 : zeroT Tryd.prog 87 = some [.i .u8 (0), .i .u8 (0)] := by kernel_rfl
theorem f87 : fieldsT Tryd.prog 87 = some [(0, 1, 5), (1, 1, 5)] := by kernel_rfl
theorem z88 : zeroT Tryd.prog 88 = some [.i .u8 (0), .i .u8 (0)] := by kernel_rfl
theorem f88 : fieldsT Tryd.prog 88 = some [(0, 1, 5), (1, 1, 5)] := by kernel_rfl
theorem z89 : zeroT Tryd.prog 89 = some [.i .u8 (0), .i .u8 (0), .i .u8 (0), .i .u8 (0), .i .u8 (0), .i .u8 (0), .i .u8 (0), .i .u8 (0), .i .u8 (0), .i .u8 (0), .i .u8 (0), .i .u8 (0), .i .u8 (0), .i .u8 (0), .i .u8 (0), .i .u8 (0), .i .u8 (0), .i .u8 (0), .i .u8 (0), .i .u8 (0), .i .u8 (0), .i .u8 (0), .i .u8 (0), .i .u8 (0), .i .u8 (0), .i .u8 (0), .i .u8 (0), .i .u8 (0), .i .u8 (0), .i .u8 (0), .i .u8 (0), .i .u8 (0)] := by kernel_rfl
theorem z91 : zeroT Tryd.prog 91 = some [.c .nilFunc] := by kernel_rfl
theorem z92 : zeroT Tryd.prog 92 = some [.c .nilFunc] := by kernel_rfl
theorem z93 : zeroT Tryd.prog 93 = some [.c (.pointer none), .c (.pointer none), .c (.pointer none), .s []] := by kernel_rfl
theorem f93 : fieldsT Tryd.prog 93 = some [(0, 1, 17), (1, 1, 17), (2, 1, 17), (3, 1, 9)] := by kernel_rfl
theorem z94 : zeroT Tryd.prog 94 = some [.c (.pointer none), .c (.pointer none), .c (.pointer none), .s []] := by kernel_rfl
theorem f94 : fieldsT Tryd.prog 94 = some [(0, 1, 17), (1, 1, 17), (2, 1, 17), (3, 1, 9)] := by kernel_rfl
theorem z98 : zeroT Tryd.prog 98 = some [.c .nilFunc] := by kernel_rfl
theorem z99 : zeroT Tryd.prog 99 = some [.i .u8 (0)] := by kernel_rfl
theorem z100 : zeroT Tryd.prog 100 = some [.i .u8 (0)] := by kernel_rfl
theorem z101 : zeroT Tryd.prog 101 = some [.c .nilFunc] := by kernel_rfl
theorem z102 : zeroT Tryd.prog 102 = some [.c (.pointer none)] := by kernel_rfl
theorem z103 : zeroT Tryd.prog 103 = some [.i .i32 (0)] := by kernel_rfl
theorem z104 : zeroT Tryd.prog 104 = some [.i .i32 (0)] := by kernel_rfl
theorem z105 : zeroT Tryd.prog 105 = some [.i .u64 (0), .i .u64 (0), .i .u32 (0), .i .u8 (0), .i .u8 (0), .i .u8 (0), .i .u8 (0), .c .nilFunc, .c (.pointer none), .i .i32 (0), .i .i32 (0)] := by kernel_rfl
theorem f105 : fieldsT Tryd.prog 105 = some [(0, 1, 12), (1, 1, 12), (2, 1, 32), (3, 1, 99), (4, 1, 5), (5, 1, 5), (6, 1, 100), (7, 1, 101), (8, 1, 102), (9, 1, 103), (10, 1, 104)] := by kernel_rfl
theorem z106 : zeroT Tryd.prog 106 = some [.i .u64 (0), .i .u64 (0), .i .u32 (0), .i .u8 (0), .i .u8 (0), .i .u8 (0), .i .u8 (0), .c .nilFunc, .c (.pointer none), .i .i32 (0), .i .i32 (0)] := by kernel_rfl
theorem f106 : fieldsT Tryd.prog 106 = some [(0, 1, 12), (1, 1, 12), (2, 1, 32), (3, 1, 99), (4, 1, 5), (5, 1, 5), (6, 1, 100), (7, 1, 101), (8, 1, 102), (9, 1, 103), (10, 1, 104)] := by kernel_rfl
theorem z107 : zeroT Tryd.prog 107 = some [.c (.pointer none)] := by kernel_rfl
attribute [go_sem] c0 b0 c1 b1 c2 b2 c3 b3 c4 b4 c5 b5 c6 b6 c7 b7 c8 b8 c9 b9 c10 b10 c11 b11 c12 b12 c13 b13 c14 b14 c15 b15 c16 b16 c17 b17 c18 b18 c19 b19 c20 b20 c21 b21 c22 b22 c23 b23 c24 b24 c25 b25 c26 b26 c27 b27 c28 b28 c29 b29 c30 b30 c31 b31 c32 b32 c33 b33 c34 b34 c35 b35 c36 b36 c37 b37 c38 b38 c39 b39 c40 b40 c41 b41 c42 b42 c43 b43 c44 b44 c45 b45 c46 b46 c47 b47 c48 b48 c49 b49 c50 b50 c51 b51 c52 b52 c53 b53 c54 b54 c55 b55 c56 b56 c57 b57 c58 b58 c59 b59 c60 b60 c61 b61 c62 b62 c63 b63 c64 b64 c65 b65 c66 b66 c67 b67 c68 b68 c69 b69 c70 b70 c71 b71 c72 b72 c73 b73 c74 b74 c75 b75 c76 b76 c77 b77 c78 b78 c79 b79 c80 b80 c81 b81 c82 b82 c83 b83 c84 b84 c85 b85 c87 b87 c88 b88 c89 b89 c90 b90 c91 b91 c92 b92 c93 b93 c94 b94 c98 b98 c99 b99 c100 b100 c101 b101 c102 b102 c103 b103 c104 b104 c105 b105 c106 b106 c107 b107 z1 z2 z3 z4 z5 z6 z7 f7 z8 f8 z9 z10 z11 z12 z13 f13 z14 f14 z15 z16 z17 z18 f18 z19 f19 z20 z21 z22 f22 z23 f23 z25 z26 z27 z28 f28 z29 f29 z30 z31 z32 z34 z35 z36 z37 z38 z39 z40 z41 z43 z44 z45 z46 z47 z49 z50 z51 z52 z53 z54 z55 z56 z57 z58 z59 z60 z61 z63 z64 z65 z66 z67 z69 z70 z71 z72 z73 z74 z75 z76 z77 z79 z80 z81 z83 z84 z85 z87 f87 z88 f88 z89 z91 z92 z93 f93 z94 f94 z98 z99 z100 z101 z102 z103 z104 z105 f105 z106 f106 z107
end GoD.TY
