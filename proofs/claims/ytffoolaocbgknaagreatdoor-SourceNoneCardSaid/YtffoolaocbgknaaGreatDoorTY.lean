import Derived.Test.YtffoolaocbgknaaGreatDoorDC
import Derived.Test.YtffoolaocbgknaaGreatDoorProg
/-! What the program's types are. -/
namespace GoD.TY
open Go GoD Go.Proofs
theorem c0 : Tryz.prog.cellsOf 0 = 1 := by kernel_rfl
theorem b0 : Tryz.prog.bytesOf 0 = 0 := by kernel_rfl
theorem c1 : Tryz.prog.cellsOf 1 = 1 := by kernel_rfl
theorem b1 : Tryz.prog.bytesOf 1 = 8 := by kernel_rfl
theorem c2 : Tryz.prog.cellsOf 2 = 1 := by kernel_rfl
theorem b2 : Tryz.prog.bytesOf 2 = 8 := by kernel_rfl
theorem c3 : Tryz.prog.cellsOf 3 = 1 := by kernel_rfl
theorem b3 : Tryz.prog.bytesOf 3 = 8 := by kernel_rfl
theorem c4 : Tryz.prog.cellsOf 4 = 1 := by kernel_rfl
theorem b4 : Tryz.prog.bytesOf 4 = 1 := by kernel_rfl
theorem c5 : Tryz.prog.cellsOf 5 = 1 := by kernel_rfl
theorem b5 : Tryz.prog.bytesOf 5 = 1 := by kernel_rfl
theorem c6 : Tryz.prog.cellsOf 6 = 1 := by kernel_rfl
theorem b6 : Tryz.prog.bytesOf 6 = 1 := by kernel_rfl
theorem c7 : Tryz.prog.cellsOf 7 = 4 := by kernel_rfl
theorem b7 : Tryz.prog.bytesOf 7 = 24 := by kernel_rfl
theorem c8 : Tryz.prog.cellsOf 8 = 4 := by kernel_rfl
theorem b8 : Tryz.prog.bytesOf 8 = 24 := by kernel_rfl
theorem c9 : Tryz.prog.cellsOf 9 = 1 := by kernel_rfl
theorem b9 : Tryz.prog.bytesOf 9 = 16 := by kernel_rfl
theorem c10 : Tryz.prog.cellsOf 10 = 1 := by kernel_rfl
theorem b10 : Tryz.prog.bytesOf 10 = 16 := by kernel_rfl
theorem c11 : Tryz.prog.cellsOf 11 = 1 := by kernel_rfl
theorem b11 : Tryz.prog.bytesOf 11 = 16 := by kernel_rfl
theorem c12 : Tryz.prog.cellsOf 12 = 1 := by kernel_rfl
theorem b12 : Tryz.prog.bytesOf 12 = 8 := by kernel_rfl
theorem c13 : Tryz.prog.cellsOf 13 = 2 := by kernel_rfl
theorem b13 : Tryz.prog.bytesOf 13 = 24 := by kernel_rfl
theorem c14 : Tryz.prog.cellsOf 14 = 2 := by kernel_rfl
theorem b14 : Tryz.prog.bytesOf 14 = 24 := by kernel_rfl
theorem c15 : Tryz.prog.cellsOf 15 = 1 := by kernel_rfl
theorem b15 : Tryz.prog.bytesOf 15 = 8 := by kernel_rfl
theorem c16 : Tryz.prog.cellsOf 16 = 1 := by kernel_rfl
theorem b16 : Tryz.prog.bytesOf 16 = 8 := by kernel_rfl
theorem c17 : Tryz.prog.cellsOf 17 = 1 := by kernel_rfl
theorem b17 : Tryz.prog.bytesOf 17 = 8 := by kernel_rfl
theorem c18 : Tryz.prog.cellsOf 18 = 1 := by kernel_rfl
theorem b18 : Tryz.prog.bytesOf 18 = 8 := by kernel_rfl
theorem c19 : Tryz.prog.cellsOf 19 = 1 := by kernel_rfl
theorem b19 : Tryz.prog.bytesOf 19 = 8 := by kernel_rfl
theorem c20 : Tryz.prog.cellsOf 20 = 1 := by kernel_rfl
theorem b20 : Tryz.prog.bytesOf 20 = 16 := by kernel_rfl
theorem c21 : Tryz.prog.cellsOf 21 = 1 := by kernel_rfl
theorem b21 : Tryz.prog.bytesOf 21 = 4 := by kernel_rfl
theorem c22 : Tryz.prog.cellsOf 22 = 1 := by kernel_rfl
theorem b22 : Tryz.prog.bytesOf 22 = 8 := by kernel_rfl
theorem c23 : Tryz.prog.cellsOf 23 = 5 := by kernel_rfl
theorem b23 : Tryz.prog.bytesOf 23 = 72 := by kernel_rfl
theorem c24 : Tryz.prog.cellsOf 24 = 5 := by kernel_rfl
theorem b24 : Tryz.prog.bytesOf 24 = 72 := by kernel_rfl
theorem c25 : Tryz.prog.cellsOf 25 = 1 := by kernel_rfl
theorem b25 : Tryz.prog.bytesOf 25 = 8 := by kernel_rfl
theorem c26 : Tryz.prog.cellsOf 26 = 1 := by kernel_rfl
theorem b26 : Tryz.prog.bytesOf 26 = 8 := by kernel_rfl
theorem c27 : Tryz.prog.cellsOf 27 = 5 := by kernel_rfl
theorem b27 : Tryz.prog.bytesOf 27 = 72 := by kernel_rfl
theorem c28 : Tryz.prog.cellsOf 28 = 1 := by kernel_rfl
theorem b28 : Tryz.prog.bytesOf 28 = 8 := by kernel_rfl
theorem c29 : Tryz.prog.cellsOf 29 = 1 := by kernel_rfl
theorem b29 : Tryz.prog.bytesOf 29 = 8 := by kernel_rfl
theorem c30 : Tryz.prog.cellsOf 30 = 10 := by kernel_rfl
theorem b30 : Tryz.prog.bytesOf 30 = 136 := by kernel_rfl
theorem c31 : Tryz.prog.cellsOf 31 = 10 := by kernel_rfl
theorem b31 : Tryz.prog.bytesOf 31 = 136 := by kernel_rfl
theorem c32 : Tryz.prog.cellsOf 32 = 1 := by kernel_rfl
theorem b32 : Tryz.prog.bytesOf 32 = 0 := by kernel_rfl
theorem c33 : Tryz.prog.cellsOf 33 = 1 := by kernel_rfl
theorem b33 : Tryz.prog.bytesOf 33 = 8 := by kernel_rfl
theorem c34 : Tryz.prog.cellsOf 34 = 1 := by kernel_rfl
theorem b34 : Tryz.prog.bytesOf 34 = 8 := by kernel_rfl
theorem c35 : Tryz.prog.cellsOf 35 = 1 := by kernel_rfl
theorem b35 : Tryz.prog.bytesOf 35 = 8 := by kernel_rfl
theorem c36 : Tryz.prog.cellsOf 36 = 1 := by kernel_rfl
theorem b36 : Tryz.prog.bytesOf 36 = 8 := by kernel_rfl
theorem c37 : Tryz.prog.cellsOf 37 = 1 := by kernel_rfl
theorem b37 : Tryz.prog.bytesOf 37 = 8 := by kernel_rfl
theorem c38 : Tryz.prog.cellsOf 38 = 1 := by kernel_rfl
theorem b38 : Tryz.prog.bytesOf 38 = 24 := by kernel_rfl
theorem c39 : Tryz.prog.cellsOf 39 = 1 := by kernel_rfl
theorem b39 : Tryz.prog.bytesOf 39 = 8 := by kernel_rfl
theorem c40 : Tryz.prog.cellsOf 40 = 1 := by kernel_rfl
theorem b40 : Tryz.prog.bytesOf 40 = 8 := by kernel_rfl
theorem c41 : Tryz.prog.cellsOf 41 = 3 := by kernel_rfl
theorem b41 : Tryz.prog.bytesOf 41 = 40 := by kernel_rfl
theorem c42 : Tryz.prog.cellsOf 42 = 3 := by kernel_rfl
theorem b42 : Tryz.prog.bytesOf 42 = 40 := by kernel_rfl
theorem c43 : Tryz.prog.cellsOf 43 = 1 := by kernel_rfl
theorem b43 : Tryz.prog.bytesOf 43 = 8 := by kernel_rfl
theorem c44 : Tryz.prog.cellsOf 44 = 1 := by kernel_rfl
theorem b44 : Tryz.prog.bytesOf 44 = 8 := by kernel_rfl
theorem c45 : Tryz.prog.cellsOf 45 = 1 := by kernel_rfl
theorem b45 : Tryz.prog.bytesOf 45 = 8 := by kernel_rfl
theorem c46 : Tryz.prog.cellsOf 46 = 1 := by kernel_rfl
theorem b46 : Tryz.prog.bytesOf 46 = 8 := by kernel_rfl
theorem c47 : Tryz.prog.cellsOf 47 = 1 := by kernel_rfl
theorem b47 : Tryz.prog.bytesOf 47 = 8 := by kernel_rfl
theorem c48 : Tryz.prog.cellsOf 48 = 1 := by kernel_rfl
theorem b48 : Tryz.prog.bytesOf 48 = 16 := by kernel_rfl
theorem c49 : Tryz.prog.cellsOf 49 = 1 := by kernel_rfl
theorem b49 : Tryz.prog.bytesOf 49 = 16 := by kernel_rfl
theorem c50 : Tryz.prog.cellsOf 50 = 6 := by kernel_rfl
theorem b50 : Tryz.prog.bytesOf 50 = 88 := by kernel_rfl
theorem c51 : Tryz.prog.cellsOf 51 = 6 := by kernel_rfl
theorem b51 : Tryz.prog.bytesOf 51 = 88 := by kernel_rfl
theorem c52 : Tryz.prog.cellsOf 52 = 1 := by kernel_rfl
theorem b52 : Tryz.prog.bytesOf 52 = 8 := by kernel_rfl
theorem c53 : Tryz.prog.cellsOf 53 = 1 := by kernel_rfl
theorem b53 : Tryz.prog.bytesOf 53 = 8 := by kernel_rfl
theorem c54 : Tryz.prog.cellsOf 54 = 1 := by kernel_rfl
theorem b54 : Tryz.prog.bytesOf 54 = 8 := by kernel_rfl
theorem c55 : Tryz.prog.cellsOf 55 = 1 := by kernel_rfl
theorem b55 : Tryz.prog.bytesOf 55 = 8 := by kernel_rfl
theorem c56 : Tryz.prog.cellsOf 56 = 1 := by kernel_rfl
theorem b56 : Tryz.prog.bytesOf 56 = 0 := by kernel_rfl
theorem c57 : Tryz.prog.cellsOf 57 = 1 := by kernel_rfl
theorem b57 : Tryz.prog.bytesOf 57 = 8 := by kernel_rfl
theorem c58 : Tryz.prog.cellsOf 58 = 1 := by kernel_rfl
theorem b58 : Tryz.prog.bytesOf 58 = 8 := by kernel_rfl
theorem c59 : Tryz.prog.cellsOf 59 = 1 := by kernel_rfl
theorem b59 : Tryz.prog.bytesOf 59 = 4 := by kernel_rfl
theorem c60 : Tryz.prog.cellsOf 60 = 1 := by kernel_rfl
theorem b60 : Tryz.prog.bytesOf 60 = 0 := by kernel_rfl
theorem c61 : Tryz.prog.cellsOf 61 = 1 := by kernel_rfl
theorem b61 : Tryz.prog.bytesOf 61 = 8 := by kernel_rfl
theorem c62 : Tryz.prog.cellsOf 62 = 1 := by kernel_rfl
theorem b62 : Tryz.prog.bytesOf 62 = 8 := by kernel_rfl
theorem c63 : Tryz.prog.cellsOf 63 = 1 := by kernel_rfl
theorem b63 : Tryz.prog.bytesOf 63 = 8 := by kernel_rfl
theorem c64 : Tryz.prog.cellsOf 64 = 1 := by kernel_rfl
theorem b64 : Tryz.prog.bytesOf 64 = 0 := by kernel_rfl
theorem c65 : Tryz.prog.cellsOf 65 = 1 := by kernel_rfl
theorem b65 : Tryz.prog.bytesOf 65 = 8 := by kernel_rfl
theorem c66 : Tryz.prog.cellsOf 66 = 1 := by kernel_rfl
theorem b66 : Tryz.prog.bytesOf 66 = 8 := by kernel_rfl
theorem c67 : Tryz.prog.cellsOf 67 = 1 := by kernel_rfl
theorem b67 : Tryz.prog.bytesOf 67 = 8 := by kernel_rfl
theorem c68 : Tryz.prog.cellsOf 68 = 1 := by kernel_rfl
theorem b68 : Tryz.prog.bytesOf 68 = 8 := by kernel_rfl
theorem c69 : Tryz.prog.cellsOf 69 = 1 := by kernel_rfl
theorem b69 : Tryz.prog.bytesOf 69 = 8 := by kernel_rfl
theorem c70 : Tryz.prog.cellsOf 70 = 1 := by kernel_rfl
theorem b70 : Tryz.prog.bytesOf 70 = 8 := by kernel_rfl
theorem c71 : Tryz.prog.cellsOf 71 = 1 := by kernel_rfl
theorem b71 : Tryz.prog.bytesOf 71 = 8 := by kernel_rfl
theorem c72 : Tryz.prog.cellsOf 72 = 1 := by kernel_rfl
theorem b72 : Tryz.prog.bytesOf 72 = 24 := by kernel_rfl
theorem c73 : Tryz.prog.cellsOf 73 = 1 := by kernel_rfl
theorem b73 : Tryz.prog.bytesOf 73 = 8 := by kernel_rfl
theorem c74 : Tryz.prog.cellsOf 74 = 1 := by kernel_rfl
theorem b74 : Tryz.prog.bytesOf 74 = 8 := by kernel_rfl
theorem c75 : Tryz.prog.cellsOf 75 = 1 := by kernel_rfl
theorem b75 : Tryz.prog.bytesOf 75 = 8 := by kernel_rfl
theorem c76 : Tryz.prog.cellsOf 76 = 1 := by kernel_rfl
theorem b76 : Tryz.prog.bytesOf 76 = 8 := by kernel_rfl
theorem c77 : Tryz.prog.cellsOf 77 = 1 := by kernel_rfl
theorem b77 : Tryz.prog.bytesOf 77 = 8 := by kernel_rfl
theorem c78 : Tryz.prog.cellsOf 78 = 1 := by kernel_rfl
theorem b78 : Tryz.prog.bytesOf 78 = 8 := by kernel_rfl
theorem c79 : Tryz.prog.cellsOf 79 = 1 := by kernel_rfl
theorem b79 : Tryz.prog.bytesOf 79 = 8 := by kernel_rfl
theorem c80 : Tryz.prog.cellsOf 80 = 1 := by kernel_rfl
theorem b80 : Tryz.prog.bytesOf 80 = 8 := by kernel_rfl
theorem c81 : Tryz.prog.cellsOf 81 = 1 := by kernel_rfl
theorem b81 : Tryz.prog.bytesOf 81 = 8 := by kernel_rfl
theorem c82 : Tryz.prog.cellsOf 82 = 1 := by kernel_rfl
theorem b82 : Tryz.prog.bytesOf 82 = 0 := by kernel_rfl
theorem c83 : Tryz.prog.cellsOf 83 = 1 := by kernel_rfl
theorem b83 : Tryz.prog.bytesOf 83 = 8 := by kernel_rfl
theorem c84 : Tryz.prog.cellsOf 84 = 1 := by kernel_rfl
theorem b84 : Tryz.prog.bytesOf 84 = 8 := by kernel_rfl
theorem c85 : Tryz.prog.cellsOf 85 = 1 := by kernel_rfl
theorem b85 : Tryz.prog.bytesOf 85 = 0 := by kernel_rfl
theorem c86 : Tryz.prog.cellsOf 86 = 1 := by kernel_rfl
theorem b86 : Tryz.prog.bytesOf 86 = 8 := by kernel_rfl
theorem c87 : Tryz.prog.cellsOf 87 = 1 := by kernel_rfl
theorem b87 : Tryz.prog.bytesOf 87 = 8 := by kernel_rfl
theorem c88 : Tryz.prog.cellsOf 88 = 1 := by kernel_rfl
theorem b88 : Tryz.prog.bytesOf 88 = 8 := by kernel_rfl
theorem c89 : Tryz.prog.cellsOf 89 = 1 := by kernel_rfl
theorem b89 : Tryz.prog.bytesOf 89 = 8 := by kernel_rfl
theorem c90 : Tryz.prog.cellsOf 90 = 1 := by kernel_rfl
theorem b90 : Tryz.prog.bytesOf 90 = 8 := by kernel_rfl
theorem c91 : Tryz.prog.cellsOf 91 = 1 := by kernel_rfl
theorem b91 : Tryz.prog.bytesOf 91 = 8 := by kernel_rfl
theorem c92 : Tryz.prog.cellsOf 92 = 1 := by kernel_rfl
theorem b92 : Tryz.prog.bytesOf 92 = 8 := by kernel_rfl
theorem c93 : Tryz.prog.cellsOf 93 = 1 := by kernel_rfl
theorem b93 : Tryz.prog.bytesOf 93 = 8 := by kernel_rfl
theorem c94 : Tryz.prog.cellsOf 94 = 1 := by kernel_rfl
theorem b94 : Tryz.prog.bytesOf 94 = 8 := by kernel_rfl
theorem c95 : Tryz.prog.cellsOf 95 = 1 := by kernel_rfl
theorem b95 : Tryz.prog.bytesOf 95 = 0 := by kernel_rfl
theorem c96 : Tryz.prog.cellsOf 96 = 1 := by kernel_rfl
theorem b96 : Tryz.prog.bytesOf 96 = 8 := by kernel_rfl
theorem c97 : Tryz.prog.cellsOf 97 = 1 := by kernel_rfl
theorem b97 : Tryz.prog.bytesOf 97 = 8 := by kernel_rfl
theorem c98 : Tryz.prog.cellsOf 98 = 1 := by kernel_rfl
theorem b98 : Tryz.prog.bytesOf 98 = 8 := by kernel_rfl
theorem c99 : Tryz.prog.cellsOf 99 = 1 := by kernel_rfl
theorem b99 : Tryz.prog.bytesOf 99 = 8 := by kernel_rfl
theorem c100 : Tryz.prog.cellsOf 100 = 1 := by kernel_rfl
theorem b100 : Tryz.prog.bytesOf 100 = 8 := by kernel_rfl
theorem c101 : Tryz.prog.cellsOf 101 = 1 := by kernel_rfl
theorem b101 : Tryz.prog.bytesOf 101 = 0 := by kernel_rfl
theorem c102 : Tryz.prog.cellsOf 102 = 1 := by kernel_rfl
theorem b102 : Tryz.prog.bytesOf 102 = 8 := by kernel_rfl
theorem c103 : Tryz.prog.cellsOf 103 = 1 := by kernel_rfl
theorem b103 : Tryz.prog.bytesOf 103 = 8 := by kernel_rfl
theorem c105 : Tryz.prog.cellsOf 105 = 2 := by kernel_rfl
theorem b105 : Tryz.prog.bytesOf 105 = 2 := by kernel_rfl
theorem c106 : Tryz.prog.cellsOf 106 = 2 := by kernel_rfl
theorem b106 : Tryz.prog.bytesOf 106 = 2 := by kernel_rfl
theorem c107 : Tryz.prog.cellsOf 107 = 32 := by kernel_rfl
theorem b107 : Tryz.prog.bytesOf 107 = 32 := by kernel_rfl
theorem c108 : Tryz.prog.cellsOf 108 = 1 := by kernel_rfl
theorem b108 : Tryz.prog.bytesOf 108 = 0 := by kernel_rfl
theorem c109 : Tryz.prog.cellsOf 109 = 1 := by kernel_rfl
theorem b109 : Tryz.prog.bytesOf 109 = 8 := by kernel_rfl
theorem c110 : Tryz.prog.cellsOf 110 = 1 := by kernel_rfl
theorem b110 : Tryz.prog.bytesOf 110 = 8 := by kernel_rfl
theorem c111 : Tryz.prog.cellsOf 111 = 4 := by kernel_rfl
theorem b111 : Tryz.prog.bytesOf 111 = 40 := by kernel_rfl
theorem c112 : Tryz.prog.cellsOf 112 = 4 := by kernel_rfl
theorem b112 : Tryz.prog.bytesOf 112 = 40 := by kernel_rfl
theorem c116 : Tryz.prog.cellsOf 116 = 1 := by kernel_rfl
theorem b116 : Tryz.prog.bytesOf 116 = 8 := by kernel_rfl
theorem c117 : Tryz.prog.cellsOf 117 = 1 := by kernel_rfl
theorem b117 : Tryz.prog.bytesOf 117 = 1 := by kernel_rfl
theorem c118 : Tryz.prog.cellsOf 118 = 1 := by kernel_rfl
theorem b118 : Tryz.prog.bytesOf 118 = 1 := by kernel_rfl
theorem c119 : Tryz.prog.cellsOf 119 = 1 := by kernel_rfl
theorem b119 : Tryz.prog.bytesOf 119 = 8 := by kernel_rfl
theorem c120 : Tryz.prog.cellsOf 120 = 1 := by kernel_rfl
theorem b120 : Tryz.prog.bytesOf 120 = 8 := by kernel_rfl
theorem c121 : Tryz.prog.cellsOf 121 = 1 := by kernel_rfl
theorem b121 : Tryz.prog.bytesOf 121 = 4 := by kernel_rfl
theorem c122 : Tryz.prog.cellsOf 122 = 1 := by kernel_rfl
theorem b122 : Tryz.prog.bytesOf 122 = 4 := by kernel_rfl
theorem c123 : Tryz.prog.cellsOf 123 = 11 := by kernel_rfl
theorem b123 : Tryz.prog.bytesOf 123 = 48 := by kernel_rfl
theorem c124 : Tryz.prog.cellsOf 124 = 11 := by kernel_rfl
theorem b124 : Tryz.prog.bytesOf 124 = 48 := by kernel_rfl
theorem c125 : Tryz.prog.cellsOf 125 = 1 := by kernel_rfl
theorem b125 : Tryz.prog.bytesOf 125 = 8 := by kernel_rfl
theorem z1 : zeroT Tryz.prog 1 = some [.c .nilFunc] := by kernel_rfl
theorem z2 : zeroT Tryz.prog 2 = some [.i .i64 (0)] := by kernel_rfl
theorem z3 : zeroT Tryz.prog 3 = some [.i .i64 (0)] := by kernel_rfl
theorem z4 : zeroT Tryz.prog 4 = some [.b false] := by kernel_rfl
theorem z5 : zeroT Tryz.prog 5 = some [.i .u8 (0)] := by kernel_rfl
theorem z6 : zeroT Tryz.prog 6 = some [.i .u8 (0)] := by kernel_rfl
theorem z7 : zeroT Tryz.prog 7 = some [.i .i64 (0), .i .i64 (0), .b false, .i .u8 (0)] := by kernel_rfl
theorem f7 : fieldsT Tryz.prog 7 = some [(0, 1, 2), (1, 1, 3), (2, 1, 4), (3, 1, 6)] := by kernel_rfl
theorem z8 : zeroT Tryz.prog 8 = some [.i .i64 (0), .i .i64 (0), .b false, .i .u8 (0)] := by kernel_rfl
theorem f8 : fieldsT Tryz.prog 8 = some [(0, 1, 2), (1, 1, 3), (2, 1, 4), (3, 1, 6)] := by kernel_rfl
theorem z9 : zeroT Tryz.prog 9 = some [.s []] := by kernel_rfl
theorem z10 : zeroT Tryz.prog 10 = some [.s []] := by kernel_rfl
theorem z11 : zeroT Tryz.prog 11 = some [.s []] := by kernel_rfl
theorem z12 : zeroT Tryz.prog 12 = some [.i .u64 (0)] := by kernel_rfl
theorem z13 : zeroT Tryz.prog 13 = some [.s [], .i .u64 (0)] := by kernel_rfl
theorem f13 : fieldsT Tryz.prog 13 = some [(0, 1, 9), (1, 1, 12)] := by kernel_rfl
theorem z14 : zeroT Tryz.prog 14 = some [.s [], .i .u64 (0)] := by kernel_rfl
theorem f14 : fieldsT Tryz.prog 14 = some [(0, 1, 9), (1, 1, 12)] := by kernel_rfl
theorem z15 : zeroT Tryz.prog 15 = some [.c (.pointer none)] := by kernel_rfl
theorem z16 : zeroT Tryz.prog 16 = some [.c (.pointer none)] := by kernel_rfl
theorem z17 : zeroT Tryz.prog 17 = some [.c (.pointer none)] := by kernel_rfl
theorem z18 : zeroT Tryz.prog 18 = some [.c (.pointer none)] := by kernel_rfl
theorem f18 : fieldsT Tryz.prog 18 = some [(0, 1, 17)] := by kernel_rfl
theorem z19 : zeroT Tryz.prog 19 = some [.c (.pointer none)] := by kernel_rfl
theorem f19 : fieldsT Tryz.prog 19 = some [(0, 1, 17)] := by kernel_rfl
theorem z20 : zeroT Tryz.prog 20 = some [.c .nilIface] := by kernel_rfl
theorem z21 : zeroT Tryz.prog 21 = some [.i .i32 (0)] := by kernel_rfl
theorem z22 : zeroT Tryz.prog 22 = some [.c .nilFunc] := by kernel_rfl
theorem z23 : zeroT Tryz.prog 23 = some [.i .i64 (0), .s [], .s [], .s [], .s []] := by kernel_rfl
theorem f23 : fieldsT Tryz.prog 23 = some [(0, 1, 3), (1, 1, 9), (2, 1, 9), (3, 1, 9), (4, 1, 9)] := by kernel_rfl
theorem z24 : zeroT Tryz.prog 24 = some [.i .i64 (0), .s [], .s [], .s [], .s []] := by kernel_rfl
theorem f24 : fieldsT Tryz.prog 24 = some [(0, 1, 3), (1, 1, 9), (2, 1, 9), (3, 1, 9), (4, 1, 9)] := by kernel_rfl
theorem z25 : zeroT Tryz.prog 25 = some [.c .nilFunc] := by kernel_rfl
theorem z26 : zeroT Tryz.prog 26 = some [.c .nilFunc] := by kernel_rfl
theorem z27 : zeroT Tryz.prog 27 = some [.i .i64 (0), .s [], .s [], .s [], .s []] := by kernel_rfl
theorem f27 : fieldsT Tryz.prog 27 = some [(0, 1, 3), (1, 1, 9), (2, 1, 9), (3, 1, 9), (4, 1, 9)] := by kernel_rfl
theorem z28 : zeroT Tryz.prog 28 = some [.c .nilFunc] := by kernel_rfl
theorem z29 : zeroT Tryz.prog 29 = some [.c .nilFunc] := by kernel_rfl
theorem z30 : zeroT Tryz.prog 30 = some [.s [], .s [], .s [], .s [], .i .i64 (0), .s [], .b false, .s [], .b false, .s []] := by kernel_rfl
theorem f30 : fieldsT Tryz.prog 30 = some [(0, 1, 9), (1, 1, 9), (2, 1, 9), (3, 1, 9), (4, 1, 3), (5, 1, 9), (6, 1, 4), (7, 1, 9), (8, 1, 4), (9, 1, 9)] := by kernel_rfl
theorem z31 : zeroT Tryz.prog 31 = some [.s [], .s [], .s [], .s [], .i .i64 (0), .s [], .b false, .s [], .b false, .s []] := by kernel_rfl
theorem f31 : fieldsT Tryz.prog 31 = some [(0, 1, 9), (1, 1, 9), (2, 1, 9), (3, 1, 9), (4, 1, 3), (5, 1, 9), (6, 1, 4), (7, 1, 9), (8, 1, 4), (9, 1, 9)] := by kernel_rfl
theorem z33 : zeroT Tryz.prog 33 = some [.c .nilFunc] := by kernel_rfl
theorem z34 : zeroT Tryz.prog 34 = some [.c .nilFunc] := by kernel_rfl
theorem z35 : zeroT Tryz.prog 35 = some [.c .nilFunc] := by kernel_rfl
theorem z36 : zeroT Tryz.prog 36 = some [.c .nilFunc] := by kernel_rfl
theorem z37 : zeroT Tryz.prog 37 = some [.c .nilFunc] := by kernel_rfl
theorem z38 : zeroT Tryz.prog 38 = some [.c (.slice none 0 0)] := by kernel_rfl
theorem z39 : zeroT Tryz.prog 39 = some [.c .nilFunc] := by kernel_rfl
theorem z40 : zeroT Tryz.prog 40 = some [.c .nilFunc] := by kernel_rfl
theorem z41 : zeroT Tryz.prog 41 = some [.s [], .s [], .i .i64 (0)] := by kernel_rfl
theorem f41 : fieldsT Tryz.prog 41 = some [(0, 1, 9), (1, 1, 9), (2, 1, 3)] := by kernel_rfl
theorem z42 : zeroT Tryz.prog 42 = some [.s [], .s [], .i .i64 (0)] := by kernel_rfl
theorem f42 : fieldsT Tryz.prog 42 = some [(0, 1, 9), (1, 1, 9), (2, 1, 3)] := by kernel_rfl
theorem z43 : zeroT Tryz.prog 43 = some [.c .nilFunc] := by kernel_rfl
theorem z44 : zeroT Tryz.prog 44 = some [.c .nilFunc] := by kernel_rfl
theorem z45 : zeroT Tryz.prog 45 = some [.c .nilFunc] := by kernel_rfl
theorem z46 : zeroT Tryz.prog 46 = some [.c .nilFunc] := by kernel_rfl
theorem z47 : zeroT Tryz.prog 47 = some [.c (.pointer none)] := by kernel_rfl
theorem z48 : zeroT Tryz.prog 48 = some [.s []] := by kernel_rfl
theorem f48 : fieldsT Tryz.prog 48 = some [(0, 1, 9)] := by kernel_rfl
theorem z49 : zeroT Tryz.prog 49 = some [.s []] := by kernel_rfl
theorem f49 : fieldsT Tryz.prog 49 = some [(0, 1, 9)] := by kernel_rfl
theorem z50 : zeroT Tryz.prog 50 = some [.s [], .i .i64 (0), .s [], .s [], .s [], .s []] := by kernel_rfl
theorem f50 : fieldsT Tryz.prog 50 = some [(0, 1, 49), (1, 5, 24)] := by kernel_rfl
theorem z51 : zeroT Tryz.prog 51 = some [.s [], .i .i64 (0), .s [], .s [], .s [], .s []] := by kernel_rfl
theorem f51 : fieldsT Tryz.prog 51 = some [(0, 1, 49), (1, 5, 24)] := by kernel_rfl
theorem z52 : zeroT Tryz.prog 52 = some [.c .nilFunc] := by kernel_rfl
theorem z53 : zeroT Tryz.prog 53 = some [.c .nilFunc] := by kernel_rfl
theorem z54 : zeroT Tryz.prog 54 = some [.c .nilFunc] := by kernel_rfl
theorem z55 : zeroT Tryz.prog 55 = some [.c .nilFunc] := by kernel_rfl
theorem z57 : zeroT Tryz.prog 57 = some [.c .nilFunc] := by kernel_rfl
theorem z58 : zeroT Tryz.prog 58 = some [.c .nilFunc] := by kernel_rfl
theorem z59 : zeroT Tryz.prog 59 = some [.i .u32 (0)] := by kernel_rfl
theorem z61 : zeroT Tryz.prog 61 = some [.c .nilFunc] := by kernel_rfl
theorem z62 : zeroT Tryz.prog 62 = some [.c .nilFunc] := by kernel_rfl
theorem z63 : zeroT Tryz.prog 63 = some [.c .nilFunc] := by kernel_rfl
theorem z65 : zeroT Tryz.prog 65 = some [.c .nilFunc] := by kernel_rfl
theorem z66 : zeroT Tryz.prog 66 = some [.c .nilFunc] := by kernel_rfl
theorem z67 : zeroT Tryz.prog 67 = some [.c .nilFunc] := by kernel_rfl
theorem z68 : zeroT Tryz.prog 68 = some [.c .nilFunc] := by kernel_rfl
theorem z69 : zeroT Tryz.prog 69 = some [.c .nilFunc] := by kernel_rfl
theorem z70 : zeroT Tryz.prog 70 = some [.c .nilFunc] := by kernel_rfl
theorem z71 : zeroT Tryz.prog 71 = some [.c .nilFunc] := by kernel_rfl
theorem z72 : zeroT Tryz.prog 72 = some [.c (.slice none 0 0)] := by kernel_rfl
theorem z73 : zeroT Tryz.prog 73 = some [.c .nilFunc] := by kernel_rfl
theorem z74 : zeroT Tryz.prog 74 = some [.c .nilFunc] := by kernel_rfl
theorem z75 : zeroT Tryz.prog 75 = some [.c (.pointer none)] := by kernel_rfl
theorem z76 : zeroT Tryz.prog 76 = some [.c .nilFunc] := by kernel_rfl
theorem z77 : zeroT Tryz.prog 77 = some [.c .nilFunc] := by kernel_rfl
theorem z78 : zeroT Tryz.prog 78 = some [.c .nilFunc] := by kernel_rfl
theorem z79 : zeroT Tryz.prog 79 = some [.c .nilFunc] := by kernel_rfl
theorem z80 : zeroT Tryz.prog 80 = some [.c .nilFunc] := by kernel_rfl
theorem z81 : zeroT Tryz.prog 81 = some [.c (.pointer none)] := by kernel_rfl
theorem z83 : zeroT Tryz.prog 83 = some [.c .nilFunc] := by kernel_rfl
theorem z84 : zeroT Tryz.prog 84 = some [.c .nilFunc] := by kernel_rfl
theorem z86 : zeroT Tryz.prog 86 = some [.c .nilFunc] := by kernel_rfl
theorem z87 : zeroT Tryz.prog 87 = some [.c .nilFunc] := by kernel_rfl
theorem z88 : zeroT Tryz.prog 88 = some [.c .nilFunc] := by kernel_rfl
theorem z89 : zeroT Tryz.prog 89 = some [.i .u64 (0)] := by kernel_rfl
theorem z90 : zeroT Tryz.prog 90 = some [.c .nilFunc] := by kernel_rfl
theorem z91 : zeroT Tryz.prog 91 = some [.c .nilFunc] := by kernel_rfl
theorem z92 : zeroT Tryz.prog 92 = some [.c .nilFunc] := by kernel_rfl
theorem z93 : zeroT Tryz.prog 93 = some [.c .nilFunc] := by kernel_rfl
theorem z94 : zeroT Tryz.prog 94 = some [.i .u64 (0)] := by kernel_rfl
theorem z96 : zeroT Tryz.prog 96 = some [.c .nilFunc] := by kernel_rfl
theorem z97 : zeroT Tryz.prog 97 = some [.c .nilFunc] := by kernel_rfl
theorem z98 : zeroT Tryz.prog 98 = some [.c .nilFunc] := by kernel_rfl
theorem z99 : zeroT Tryz.prog 99 = some [.c .nilFunc] := by kernel_rfl
theorem z100 : zeroT Tryz.prog 100 = some [.c .nilFunc] := by kernel_rfl
theorem z102 : zeroT Tryz.prog 102 = some [.c .nilFunc] := by kernel_rfl
theorem z103 : zeroT Tryz.prog 103 = some [.c .nilFunc] := by kernel_rfl
theorem z105 : zeroT Tryz.prog 105 = some [.i .u8 (0), .i .u8 (0)] := by kernel_rfl
theorem f105 : fieldsT Tryz.prog 105 = some [(0, 1, 5), (1, 1, 5)] := by kernel_rfl
theorem z106 : zeroT Tryz.prog 106 = some [.i .u8 (0), .i .u8 (0)] := by kernel_rfl
theorem f106 : fieldsT Tryz.prog 106 = some [(0, 1, 5), (1, 1, 5)] := by kernel_rfl
theorem z107 : zeroT Tryz.prog 107 = some [.i .u8 (0), .i .u8 (0), .i .u8 (0), .i .u8 (0), .i .u8 (0), .i .u8 (0), .i .u8 (0), .i .u8 (0), .i .u8 (0), .i .u8 (0), .i .u8 (0), .i .u8 (0), .i .u8 (0), .i .u8 (0), .i .u8 (0), .i .u8 (0), .i .u8 (0), .i .u8 (0), .i .u8 (0), .i .u8 (0), .i .u8 (0), .i .u8 (0), .i .u8 (0), .i .u8 (0), .i .u8 (0), .i .u8 (0), .i .u8 (0), .i .u8 (0), .i .u8 (0), .i .u8 (0), .i .u8 (0), .i .u8 (0)] := by kernel_rfl
theorem z109 : zeroT Tryz.prog 109 = some [.c .nilFunc] := by kernel_rfl
theorem z110 : zeroT Tryz.prog 110 = some [.c .nilFunc] := by kernel_rfl
theorem z111 : zeroT Tryz.prog 111 = some [.c (.pointer none), .c (.pointer none), .c (.pointer none), .s []] := by kernel_rfl
theorem f111 : fieldsT Tryz.prog 111 = some [(0, 1, 17), (1, 1, 17), (2, 1, 17), (3, 1, 9)] := by kernel_rfl
theorem z112 : zeroT Tryz.prog 112 = some [.c (.pointer none), .c (.pointer none), .c (.pointer none), .s []] := by kernel_rfl
theorem f112 : fieldsT Tryz.prog 112 = some [(0, 1, 17), (1, 1, 17), (2, 1, 17), (3, 1, 9)] := by kernel_rfl
theorem z116 : zeroT Tryz.prog 116 = some [.c .nilFunc] := by kernel_rfl
theorem z117 : zeroT Tryz.prog 117 = some [.i .u8 (0)] := by kernel_rfl
theorem z118 : zeroT Tryz.prog 118 = some [.i .u8 (0)] := by kernel_rfl
theorem z119 : zeroT Tryz.prog 119 = some [.c .nilFunc] := by kernel_rfl
theorem z120 : zeroT Tryz.prog 120 = some [.c (.pointer none)] := by kernel_rfl
theorem z121 : zeroT Tryz.prog 121 = some [.i .i32 (0)] := by kernel_rfl
theorem z122 : zeroT Tryz.prog 122 = some [.i .i32 (0)] := by kernel_rfl
theorem z123 : zeroT Tryz.prog 123 = some [.i .u64 (0), .i .u64 (0), .i .u32 (0), .i .u8 (0), .i .u8 (0), .i .u8 (0), .i .u8 (0), .c .nilFunc, .c (.pointer none), .i .i32 (0), .i .i32 (0)] := by kernel_rfl
theorem f123 : fieldsT Tryz.prog 123 = some [(0, 1, 12), (1, 1, 12), (2, 1, 59), (3, 1, 117), (4, 1, 5), (5, 1, 5), (6, 1, 118), (7, 1, 119), (8, 1, 120), (9, 1, 121), (10, 1, 122)] := by kernel_rfl
theorem z124 : zeroT Tryz.prog 124 = some [.i .u64 (0), .i .u64 (0), .i .u32 (0), .i .u8 (0), .i .u8 (0), .i .u8 (0), .i .u8 (0), .c .nilFunc, .c (.pointer none), .i .i32 (0), .i .i32 (0)] := by kernel_rfl
theorem f124 : fieldsT Tryz.prog 124 = some [(0, 1, 12), (1, 1, 12), (2, 1, 59), (3, 1, 117), (4, 1, 5), (5, 1, 5), (6, 1, 118), (7, 1, 119), (8, 1, 120), (9, 1, 121), (10, 1, 122)] := by kernel_rfl
theorem z125 : zeroT Tryz.prog 125 = some [.c (.pointer none)] := by kernel_rfl
attribute [go_sem] c0 b0 c1 b1 c2 b2 c3 b3 c4 b4 c5 b5 c6 b6 c7 b7 c8 b8 c9 b9 c10 b10 c11 b11 c12 b12 c13 b13 c14 b14 c15 b15 c16 b16 c17 b17 c18 b18 c19 b19 c20 b20 c21 b21 c22 b22 c23 b23 c24 b24 c25 b25 c26 b26 c27 b27 c28 b28 c29 b29 c30 b30 c31 b31 c32 b32 c33 b33 c34 b34 c35 b35 c36 b36 c37 b37 c38 b38 c39 b39 c40 b40 c41 b41 c42 b42 c43 b43 c44 b44 c45 b45 c46 b46 c47 b47 c48 b48 c49 b49 c50 b50 c51 b51 c52 b52 c53 b53 c54 b54 c55 b55 c56 b56 c57 b57 c58 b58 c59 b59 c60 b60 c61 b61 c62 b62 c63 b63 c64 b64 c65 b65 c66 b66 c67 b67 c68 b68 c69 b69 c70 b70 c71 b71 c72 b72 c73 b73 c74 b74 c75 b75 c76 b76 c77 b77 c78 b78 c79 b79 c80 b80 c81 b81 c82 b82 c83 b83 c84 b84 c85 b85 c86 b86 c87 b87 c88 b88 c89 b89 c90 b90 c91 b91 c92 b92 c93 b93 c94 b94 c95 b95 c96 b96 c97 b97 c98 b98 c99 b99 c100 b100 c101 b101 c102 b102 c103 b103 c105 b105 c106 b106 c107 b107 c108 b108 c109 b109 c110 b110 c111 b111 c112 b112 c116 b116 c117 b117 c118 b118 c119 b119 c120 b120 c121 b121 c122 b122 c123 b123 c124 b124 c125 b125 z1 z2 z3 z4 z5 z6 z7 f7 z8 f8 z9 z10 z11 z12 z13 f13 z14 f14 z15 z16 z17 z18 f18 z19 f19 z20 z21 z22 z23 f23 z24 f24 z25 z26 z27 f27 z28 z29 z30 f30 z31 f31 z33 z34 z35 z36 z37 z38 z39 z40 z41 f41 z42 f42 z43 z44 z45 z46 z47 z48 f48 z49 f49 z50 f50 z51 f51 z52 z53 z54 z55 z57 z58 z59 z61 z62 z63 z65 z66 z67 z68 z69 z70 z71 z72 z73 z74 z75 z76 z77 z78 z79 z80 z81 z83 z84 z86 z87 z88 z89 z90 z91 z92 z93 z94 z96 z97 z98 z99 z100 z102 z103 z105 f105 z106 f106 z107 z109 z110 z111 f111 z112 f112 z116 z117 z118 z119 z120 z121 z122 z123 f123 z124 f124 z125
end GoD.TY
