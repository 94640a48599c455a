import Derived.Test.YtkollnjnfdpolaaDC
import Derived.Test.YtkollnjnfdpolaaProg
/-! What the program's types are. -/
namespace GoD.TY
open Go GoD Go.Proofs
theorem c0 : Try.prog.cellsOf 0 = 1 := by kernel_rfl
theorem b0 : Try.prog.bytesOf 0 = 0 := by kernel_rfl
theorem c1 : Try.prog.cellsOf 1 = 1 := by kernel_rfl
theorem b1 : Try.prog.bytesOf 1 = 8 := by kernel_rfl
theorem c2 : Try.prog.cellsOf 2 = 1 := by kernel_rfl
theorem b2 : Try.prog.bytesOf 2 = 8 := by kernel_rfl
theorem c3 : Try.prog.cellsOf 3 = 1 := by kernel_rfl
theorem b3 : Try.prog.bytesOf 3 = 8 := by kernel_rfl
theorem c4 : Try.prog.cellsOf 4 = 1 := by kernel_rfl
theorem b4 : Try.prog.bytesOf 4 = 1 := by kernel_rfl
theorem c5 : Try.prog.cellsOf 5 = 1 := by kernel_rfl
theorem b5 : Try.prog.bytesOf 5 = 1 := by kernel_rfl
theorem c6 : Try.prog.cellsOf 6 = 1 := by kernel_rfl
theorem b6 : Try.prog.bytesOf 6 = 1 := by kernel_rfl
theorem c7 : Try.prog.cellsOf 7 = 4 := by kernel_rfl
theorem b7 : Try.prog.bytesOf 7 = 24 := by kernel_rfl
theorem c8 : Try.prog.cellsOf 8 = 4 := by kernel_rfl
theorem b8 : Try.prog.bytesOf 8 = 24 := by kernel_rfl
theorem c9 : Try.prog.cellsOf 9 = 1 := by kernel_rfl
theorem b9 : Try.prog.bytesOf 9 = 16 := by kernel_rfl
theorem c10 : Try.prog.cellsOf 10 = 1 := by kernel_rfl
theorem b10 : Try.prog.bytesOf 10 = 16 := by kernel_rfl
theorem c11 : Try.prog.cellsOf 11 = 1 := by kernel_rfl
theorem b11 : Try.prog.bytesOf 11 = 16 := by kernel_rfl
theorem c12 : Try.prog.cellsOf 12 = 1 := by kernel_rfl
theorem b12 : Try.prog.bytesOf 12 = 8 := by kernel_rfl
theorem c13 : Try.prog.cellsOf 13 = 2 := by kernel_rfl
theorem b13 : Try.prog.bytesOf 13 = 24 := by kernel_rfl
theorem c14 : Try.prog.cellsOf 14 = 2 := by kernel_rfl
theorem b14 : Try.prog.bytesOf 14 = 24 := by kernel_rfl
theorem c15 : Try.prog.cellsOf 15 = 1 := by kernel_rfl
theorem b15 : Try.prog.bytesOf 15 = 8 := by kernel_rfl
theorem c16 : Try.prog.cellsOf 16 = 1 := by kernel_rfl
theorem b16 : Try.prog.bytesOf 16 = 8 := by kernel_rfl
theorem c17 : Try.prog.cellsOf 17 = 1 := by kernel_rfl
theorem b17 : Try.prog.bytesOf 17 = 8 := by kernel_rfl
theorem c18 : Try.prog.cellsOf 18 = 1 := by kernel_rfl
theorem b18 : Try.prog.bytesOf 18 = 8 := by kernel_rfl
theorem c19 : Try.prog.cellsOf 19 = 1 := by kernel_rfl
theorem b19 : Try.prog.bytesOf 19 = 8 := by kernel_rfl
theorem c20 : Try.prog.cellsOf 20 = 1 := by kernel_rfl
theorem b20 : Try.prog.bytesOf 20 = 16 := by kernel_rfl
theorem c21 : Try.prog.cellsOf 21 = 1 := by kernel_rfl
theorem b21 : Try.prog.bytesOf 21 = 4 := by kernel_rfl
theorem c22 : Try.prog.cellsOf 22 = 1 := by kernel_rfl
theorem b22 : Try.prog.bytesOf 22 = 8 := by kernel_rfl
theorem c23 : Try.prog.cellsOf 23 = 1 := by kernel_rfl
theorem b23 : Try.prog.bytesOf 23 = 8 := by kernel_rfl
theorem c24 : Try.prog.cellsOf 24 = 1 := by kernel_rfl
theorem b24 : Try.prog.bytesOf 24 = 8 := by kernel_rfl
theorem c25 : Try.prog.cellsOf 25 = 1 := by kernel_rfl
theorem b25 : Try.prog.bytesOf 25 = 0 := by kernel_rfl
theorem c26 : Try.prog.cellsOf 26 = 1 := by kernel_rfl
theorem b26 : Try.prog.bytesOf 26 = 8 := by kernel_rfl
theorem c27 : Try.prog.cellsOf 27 = 1 := by kernel_rfl
theorem b27 : Try.prog.bytesOf 27 = 8 := by kernel_rfl
theorem c28 : Try.prog.cellsOf 28 = 1 := by kernel_rfl
theorem b28 : Try.prog.bytesOf 28 = 0 := by kernel_rfl
theorem c29 : Try.prog.cellsOf 29 = 1 := by kernel_rfl
theorem b29 : Try.prog.bytesOf 29 = 8 := by kernel_rfl
theorem c30 : Try.prog.cellsOf 30 = 1 := by kernel_rfl
theorem b30 : Try.prog.bytesOf 30 = 8 := by kernel_rfl
theorem c31 : Try.prog.cellsOf 31 = 1 := by kernel_rfl
theorem b31 : Try.prog.bytesOf 31 = 24 := by kernel_rfl
theorem c32 : Try.prog.cellsOf 32 = 4 := by kernel_rfl
theorem b32 : Try.prog.bytesOf 32 = 56 := by kernel_rfl
theorem c33 : Try.prog.cellsOf 33 = 4 := by kernel_rfl
theorem b33 : Try.prog.bytesOf 33 = 56 := by kernel_rfl
theorem c34 : Try.prog.cellsOf 34 = 1 := by kernel_rfl
theorem b34 : Try.prog.bytesOf 34 = 24 := by kernel_rfl
theorem c35 : Try.prog.cellsOf 35 = 7 := by kernel_rfl
theorem b35 : Try.prog.bytesOf 35 = 96 := by kernel_rfl
theorem c36 : Try.prog.cellsOf 36 = 7 := by kernel_rfl
theorem b36 : Try.prog.bytesOf 36 = 96 := by kernel_rfl
theorem c37 : Try.prog.cellsOf 37 = 1 := by kernel_rfl
theorem b37 : Try.prog.bytesOf 37 = 8 := by kernel_rfl
theorem c38 : Try.prog.cellsOf 38 = 1 := by kernel_rfl
theorem b38 : Try.prog.bytesOf 38 = 8 := by kernel_rfl
theorem c39 : Try.prog.cellsOf 39 = 1 := by kernel_rfl
theorem b39 : Try.prog.bytesOf 39 = 8 := by kernel_rfl
theorem c40 : Try.prog.cellsOf 40 = 1 := by kernel_rfl
theorem b40 : Try.prog.bytesOf 40 = 0 := by kernel_rfl
theorem c41 : Try.prog.cellsOf 41 = 1 := by kernel_rfl
theorem b41 : Try.prog.bytesOf 41 = 8 := by kernel_rfl
theorem c42 : Try.prog.cellsOf 42 = 5 := by kernel_rfl
theorem b42 : Try.prog.bytesOf 42 = 64 := by kernel_rfl
theorem c43 : Try.prog.cellsOf 43 = 5 := by kernel_rfl
theorem b43 : Try.prog.bytesOf 43 = 64 := by kernel_rfl
theorem c44 : Try.prog.cellsOf 44 = 1 := by kernel_rfl
theorem b44 : Try.prog.bytesOf 44 = 8 := by kernel_rfl
theorem c45 : Try.prog.cellsOf 45 = 1 := by kernel_rfl
theorem b45 : Try.prog.bytesOf 45 = 8 := by kernel_rfl
theorem c46 : Try.prog.cellsOf 46 = 1 := by kernel_rfl
theorem b46 : Try.prog.bytesOf 46 = 24 := by kernel_rfl
theorem c47 : Try.prog.cellsOf 47 = 1 := by kernel_rfl
theorem b47 : Try.prog.bytesOf 47 = 8 := by kernel_rfl
theorem c48 : Try.prog.cellsOf 48 = 1 := by kernel_rfl
theorem b48 : Try.prog.bytesOf 48 = 8 := by kernel_rfl
theorem c49 : Try.prog.cellsOf 49 = 1 := by kernel_rfl
theorem b49 : Try.prog.bytesOf 49 = 8 := by kernel_rfl
theorem c50 : Try.prog.cellsOf 50 = 1 := by kernel_rfl
theorem b50 : Try.prog.bytesOf 50 = 8 := by kernel_rfl
theorem c51 : Try.prog.cellsOf 51 = 5 := by kernel_rfl
theorem b51 : Try.prog.bytesOf 51 = 40 := by kernel_rfl
theorem c52 : Try.prog.cellsOf 52 = 5 := by kernel_rfl
theorem b52 : Try.prog.bytesOf 52 = 40 := by kernel_rfl
theorem c53 : Try.prog.cellsOf 53 = 4 := by kernel_rfl
theorem b53 : Try.prog.bytesOf 53 = 40 := by kernel_rfl
theorem c54 : Try.prog.cellsOf 54 = 4 := by kernel_rfl
theorem b54 : Try.prog.bytesOf 54 = 40 := by kernel_rfl
theorem c55 : Try.prog.cellsOf 55 = 7 := by kernel_rfl
theorem b55 : Try.prog.bytesOf 55 = 96 := by kernel_rfl
theorem c56 : Try.prog.cellsOf 56 = 7 := by kernel_rfl
theorem b56 : Try.prog.bytesOf 56 = 96 := by kernel_rfl
theorem c57 : Try.prog.cellsOf 57 = 11 := by kernel_rfl
theorem b57 : Try.prog.bytesOf 57 = 136 := by kernel_rfl
theorem c58 : Try.prog.cellsOf 58 = 11 := by kernel_rfl
theorem b58 : Try.prog.bytesOf 58 = 136 := by kernel_rfl
theorem c59 : Try.prog.cellsOf 59 = 1 := by kernel_rfl
theorem b59 : Try.prog.bytesOf 59 = 0 := by kernel_rfl
theorem c60 : Try.prog.cellsOf 60 = 1 := by kernel_rfl
theorem b60 : Try.prog.bytesOf 60 = 8 := by kernel_rfl
theorem c61 : Try.prog.cellsOf 61 = 1 := by kernel_rfl
theorem b61 : Try.prog.bytesOf 61 = 8 := by kernel_rfl
theorem c62 : Try.prog.cellsOf 62 = 1 := by kernel_rfl
theorem b62 : Try.prog.bytesOf 62 = 8 := by kernel_rfl
theorem c63 : Try.prog.cellsOf 63 = 1 := by kernel_rfl
theorem b63 : Try.prog.bytesOf 63 = 8 := by kernel_rfl
theorem c64 : Try.prog.cellsOf 64 = 1 := by kernel_rfl
theorem b64 : Try.prog.bytesOf 64 = 8 := by kernel_rfl
theorem c65 : Try.prog.cellsOf 65 = 1 := by kernel_rfl
theorem b65 : Try.prog.bytesOf 65 = 8 := by kernel_rfl
theorem c66 : Try.prog.cellsOf 66 = 1 := by kernel_rfl
theorem b66 : Try.prog.bytesOf 66 = 8 := by kernel_rfl
theorem c67 : Try.prog.cellsOf 67 = 1 := by kernel_rfl
theorem b67 : Try.prog.bytesOf 67 = 8 := by kernel_rfl
theorem c68 : Try.prog.cellsOf 68 = 1 := by kernel_rfl
theorem b68 : Try.prog.bytesOf 68 = 8 := by kernel_rfl
theorem c69 : Try.prog.cellsOf 69 = 1 := by kernel_rfl
theorem b69 : Try.prog.bytesOf 69 = 8 := by kernel_rfl
theorem c70 : Try.prog.cellsOf 70 = 1 := by kernel_rfl
theorem b70 : Try.prog.bytesOf 70 = 8 := by kernel_rfl
theorem c71 : Try.prog.cellsOf 71 = 1 := by kernel_rfl
theorem b71 : Try.prog.bytesOf 71 = 24 := by kernel_rfl
theorem c72 : Try.prog.cellsOf 72 = 1 := by kernel_rfl
theorem b72 : Try.prog.bytesOf 72 = 24 := by kernel_rfl
theorem c73 : Try.prog.cellsOf 73 = 1 := by kernel_rfl
theorem b73 : Try.prog.bytesOf 73 = 8 := by kernel_rfl
theorem c74 : Try.prog.cellsOf 74 = 1 := by kernel_rfl
theorem b74 : Try.prog.bytesOf 74 = 8 := by kernel_rfl
theorem c75 : Try.prog.cellsOf 75 = 1 := by kernel_rfl
theorem b75 : Try.prog.bytesOf 75 = 24 := by kernel_rfl
theorem c76 : Try.prog.cellsOf 76 = 1 := by kernel_rfl
theorem b76 : Try.prog.bytesOf 76 = 8 := by kernel_rfl
theorem c77 : Try.prog.cellsOf 77 = 1 := by kernel_rfl
theorem b77 : Try.prog.bytesOf 77 = 8 := by kernel_rfl
theorem c78 : Try.prog.cellsOf 78 = 1 := by kernel_rfl
theorem b78 : Try.prog.bytesOf 78 = 8 := by kernel_rfl
theorem c79 : Try.prog.cellsOf 79 = 1 := by kernel_rfl
theorem b79 : Try.prog.bytesOf 79 = 8 := by kernel_rfl
theorem c80 : Try.prog.cellsOf 80 = 1 := by kernel_rfl
theorem b80 : Try.prog.bytesOf 80 = 8 := by kernel_rfl
theorem c81 : Try.prog.cellsOf 81 = 1 := by kernel_rfl
theorem b81 : Try.prog.bytesOf 81 = 8 := by kernel_rfl
theorem c82 : Try.prog.cellsOf 82 = 2 := by kernel_rfl
theorem b82 : Try.prog.bytesOf 82 = 32 := by kernel_rfl
theorem c83 : Try.prog.cellsOf 83 = 2 := by kernel_rfl
theorem b83 : Try.prog.bytesOf 83 = 32 := by kernel_rfl
theorem c84 : Try.prog.cellsOf 84 = 2 := by kernel_rfl
theorem b84 : Try.prog.bytesOf 84 = 32 := by kernel_rfl
theorem c85 : Try.prog.cellsOf 85 = 2 := by kernel_rfl
theorem b85 : Try.prog.bytesOf 85 = 32 := by kernel_rfl
theorem c86 : Try.prog.cellsOf 86 = 1 := by kernel_rfl
theorem b86 : Try.prog.bytesOf 86 = 8 := by kernel_rfl
theorem c87 : Try.prog.cellsOf 87 = 1 := by kernel_rfl
theorem b87 : Try.prog.bytesOf 87 = 0 := by kernel_rfl
theorem c88 : Try.prog.cellsOf 88 = 1 := by kernel_rfl
theorem b88 : Try.prog.bytesOf 88 = 8 := by kernel_rfl
theorem c89 : Try.prog.cellsOf 89 = 1 := by kernel_rfl
theorem b89 : Try.prog.bytesOf 89 = 0 := by kernel_rfl
theorem c90 : Try.prog.cellsOf 90 = 1 := by kernel_rfl
theorem b90 : Try.prog.bytesOf 90 = 8 := by kernel_rfl
theorem c91 : Try.prog.cellsOf 91 = 1 := by kernel_rfl
theorem b91 : Try.prog.bytesOf 91 = 0 := by kernel_rfl
theorem c92 : Try.prog.cellsOf 92 = 1 := by kernel_rfl
theorem b92 : Try.prog.bytesOf 92 = 8 := by kernel_rfl
theorem c93 : Try.prog.cellsOf 93 = 1 := by kernel_rfl
theorem b93 : Try.prog.bytesOf 93 = 8 := by kernel_rfl
theorem c94 : Try.prog.cellsOf 94 = 1 := by kernel_rfl
theorem b94 : Try.prog.bytesOf 94 = 24 := by kernel_rfl
theorem c95 : Try.prog.cellsOf 95 = 1 := by kernel_rfl
theorem b95 : Try.prog.bytesOf 95 = 8 := by kernel_rfl
theorem c96 : Try.prog.cellsOf 96 = 1 := by kernel_rfl
theorem b96 : Try.prog.bytesOf 96 = 8 := by kernel_rfl
theorem c97 : Try.prog.cellsOf 97 = 1 := by kernel_rfl
theorem b97 : Try.prog.bytesOf 97 = 8 := by kernel_rfl
theorem c98 : Try.prog.cellsOf 98 = 1 := by kernel_rfl
theorem b98 : Try.prog.bytesOf 98 = 8 := by kernel_rfl
theorem c99 : Try.prog.cellsOf 99 = 1 := by kernel_rfl
theorem b99 : Try.prog.bytesOf 99 = 8 := by kernel_rfl
theorem c100 : Try.prog.cellsOf 100 = 1 := by kernel_rfl
theorem b100 : Try.prog.bytesOf 100 = 8 := by kernel_rfl
theorem c101 : Try.prog.cellsOf 101 = 1 := by kernel_rfl
theorem b101 : Try.prog.bytesOf 101 = 8 := by kernel_rfl
theorem c102 : Try.prog.cellsOf 102 = 1 := by kernel_rfl
theorem b102 : Try.prog.bytesOf 102 = 8 := by kernel_rfl
theorem c103 : Try.prog.cellsOf 103 = 1 := by kernel_rfl
theorem b103 : Try.prog.bytesOf 103 = 8 := by kernel_rfl
theorem c104 : Try.prog.cellsOf 104 = 1 := by kernel_rfl
theorem b104 : Try.prog.bytesOf 104 = 8 := by kernel_rfl
theorem c105 : Try.prog.cellsOf 105 = 1 := by kernel_rfl
theorem b105 : Try.prog.bytesOf 105 = 0 := by kernel_rfl
theorem c106 : Try.prog.cellsOf 106 = 1 := by kernel_rfl
theorem b106 : Try.prog.bytesOf 106 = 4 := by kernel_rfl
theorem c107 : Try.prog.cellsOf 107 = 1 := by kernel_rfl
theorem b107 : Try.prog.bytesOf 107 = 8 := by kernel_rfl
theorem c108 : Try.prog.cellsOf 108 = 1 := by kernel_rfl
theorem b108 : Try.prog.bytesOf 108 = 8 := by kernel_rfl
theorem c109 : Try.prog.cellsOf 109 = 1 := by kernel_rfl
theorem b109 : Try.prog.bytesOf 109 = 8 := by kernel_rfl
theorem c110 : Try.prog.cellsOf 110 = 2 := by kernel_rfl
theorem b110 : Try.prog.bytesOf 110 = 32 := by kernel_rfl
theorem c111 : Try.prog.cellsOf 111 = 2 := by kernel_rfl
theorem b111 : Try.prog.bytesOf 111 = 32 := by kernel_rfl
theorem c112 : Try.prog.cellsOf 112 = 1 := by kernel_rfl
theorem b112 : Try.prog.bytesOf 112 = 8 := by kernel_rfl
theorem c113 : Try.prog.cellsOf 113 = 1 := by kernel_rfl
theorem b113 : Try.prog.bytesOf 113 = 8 := by kernel_rfl
theorem c114 : Try.prog.cellsOf 114 = 1 := by kernel_rfl
theorem b114 : Try.prog.bytesOf 114 = 8 := by kernel_rfl
theorem c115 : Try.prog.cellsOf 115 = 1 := by kernel_rfl
theorem b115 : Try.prog.bytesOf 115 = 8 := by kernel_rfl
theorem c116 : Try.prog.cellsOf 116 = 1 := by kernel_rfl
theorem b116 : Try.prog.bytesOf 116 = 8 := by kernel_rfl
theorem c117 : Try.prog.cellsOf 117 = 1 := by kernel_rfl
theorem b117 : Try.prog.bytesOf 117 = 8 := by kernel_rfl
theorem c118 : Try.prog.cellsOf 118 = 1 := by kernel_rfl
theorem b118 : Try.prog.bytesOf 118 = 8 := by kernel_rfl
theorem c119 : Try.prog.cellsOf 119 = 1 := by kernel_rfl
theorem b119 : Try.prog.bytesOf 119 = 8 := by kernel_rfl
theorem c120 : Try.prog.cellsOf 120 = 1 := by kernel_rfl
theorem b120 : Try.prog.bytesOf 120 = 8 := by kernel_rfl
theorem c121 : Try.prog.cellsOf 121 = 1 := by kernel_rfl
theorem b121 : Try.prog.bytesOf 121 = 8 := by kernel_rfl
theorem c122 : Try.prog.cellsOf 122 = 1 := by kernel_rfl
theorem b122 : Try.prog.bytesOf 122 = 0 := by kernel_rfl
theorem c123 : Try.prog.cellsOf 123 = 1 := by kernel_rfl
theorem b123 : Try.prog.bytesOf 123 = 8 := by kernel_rfl
theorem c124 : Try.prog.cellsOf 124 = 1 := by kernel_rfl
theorem b124 : Try.prog.bytesOf 124 = 8 := by kernel_rfl
theorem c125 : Try.prog.cellsOf 125 = 1 := by kernel_rfl
theorem b125 : Try.prog.bytesOf 125 = 8 := by kernel_rfl
theorem c126 : Try.prog.cellsOf 126 = 1 := by kernel_rfl
theorem b126 : Try.prog.bytesOf 126 = 8 := by kernel_rfl
theorem c127 : Try.prog.cellsOf 127 = 1 := by kernel_rfl
theorem b127 : Try.prog.bytesOf 127 = 8 := by kernel_rfl
theorem c128 : Try.prog.cellsOf 128 = 4 := by kernel_rfl
theorem b128 : Try.prog.bytesOf 128 = 40 := by kernel_rfl
theorem c129 : Try.prog.cellsOf 129 = 4 := by kernel_rfl
theorem b129 : Try.prog.bytesOf 129 = 40 := by kernel_rfl
theorem c133 : Try.prog.cellsOf 133 = 1 := by kernel_rfl
theorem b133 : Try.prog.bytesOf 133 = 1 := by kernel_rfl
theorem c134 : Try.prog.cellsOf 134 = 1 := by kernel_rfl
theorem b134 : Try.prog.bytesOf 134 = 1 := by kernel_rfl
theorem c135 : Try.prog.cellsOf 135 = 1 := by kernel_rfl
theorem b135 : Try.prog.bytesOf 135 = 8 := by kernel_rfl
theorem c136 : Try.prog.cellsOf 136 = 1 := by kernel_rfl
theorem b136 : Try.prog.bytesOf 136 = 8 := by kernel_rfl
theorem c137 : Try.prog.cellsOf 137 = 1 := by kernel_rfl
theorem b137 : Try.prog.bytesOf 137 = 4 := by kernel_rfl
theorem c138 : Try.prog.cellsOf 138 = 1 := by kernel_rfl
theorem b138 : Try.prog.bytesOf 138 = 4 := by kernel_rfl
theorem c139 : Try.prog.cellsOf 139 = 11 := by kernel_rfl
theorem b139 : Try.prog.bytesOf 139 = 48 := by kernel_rfl
theorem c140 : Try.prog.cellsOf 140 = 11 := by kernel_rfl
theorem b140 : Try.prog.bytesOf 140 = 48 := by kernel_rfl
theorem c141 : Try.prog.cellsOf 141 = 1 := by kernel_rfl
theorem b141 : Try.prog.bytesOf 141 = 8 := by kernel_rfl
theorem z1 : zeroT Try.prog 1 = some [.c .nilFunc] := by kernel_rfl
theorem z2 : zeroT Try.prog 2 = some [.i .i64 (0)] := by kernel_rfl
theorem z3 : zeroT Try.prog 3 = some [.i .i64 (0)] := by kernel_rfl
theorem z4 : zeroT Try.prog 4 = some [.b false] := by kernel_rfl
theorem z5 : zeroT Try.prog 5 = some [.i .u8 (0)] := by kernel_rfl
theorem z6 : zeroT Try.prog 6 = some [.i .u8 (0)] := by kernel_rfl
theorem z7 : zeroT Try.prog 7 = some [.i .i64 (0), .i .i64 (0), .b false, .i .u8 (0)] := by kernel_rfl
theorem f7 : fieldsT Try.prog 7 = some [(0, 1, 2), (1, 1, 3), (2, 1, 4), (3, 1, 6)] := by kernel_rfl
theorem z8 : zeroT Try.prog 8 = some [.i .i64 (0), .i .i64 (0), .b false, .i .u8 (0)] := by kernel_rfl
theorem f8 : fieldsT Try.prog 8 = some [(0, 1, 2), (1, 1, 3), (2, 1, 4), (3, 1, 6)] := by kernel_rfl
theorem z9 : zeroT Try.prog 9 = some [.s []] := by kernel_rfl
theorem z10 : zeroT Try.prog 10 = some [.s []] := by kernel_rfl
theorem z11 : zeroT Try.prog 11 = some [.s []] := by kernel_rfl
theorem z12 : zeroT Try.prog 12 = some [.i .u64 (0)] := by kernel_rfl
theorem z13 : zeroT Try.prog 13 = some [.s [], .i .u64 (0)] := by kernel_rfl
theorem f13 : fieldsT Try.prog 13 = some [(0, 1, 9), (1, 1, 12)] := by kernel_rfl
theorem z14 : zeroT Try.prog 14 = some [.s [], .i .u64 (0)] := by kernel_rfl
theorem f14 : fieldsT Try.prog 14 = some [(0, 1, 9), (1, 1, 12)] := by kernel_rfl
theorem z15 : zeroT Try.prog 15 = some [.c (.pointer none)] := by kernel_rfl
theorem z16 : zeroT Try.prog 16 = some [.c (.pointer none)] := by kernel_rfl
theorem z17 : zeroT Try.prog 17 = some [.c (.pointer none)] := by kernel_rfl
theorem z18 : zeroT Try.prog 18 = some [.c (.pointer none)] := by kernel_rfl
theorem f18 : fieldsT Try.prog 18 = some [(0, 1, 17)] := by kernel_rfl
theorem z19 : zeroT Try.prog 19 = some [.c (.pointer none)] := by kernel_rfl
theorem f19 : fieldsT Try.prog 19 = some [(0, 1, 17)] := by kernel_rfl
theorem z20 : zeroT Try.prog 20 = some [.c .nilIface] := by kernel_rfl
theorem z21 : zeroT Try.prog 21 = some [.i .i32 (0)] := by kernel_rfl
theorem z22 : zeroT Try.prog 22 = some [.c .nilFunc] := by kernel_rfl
theorem z23 : zeroT Try.prog 23 = some [.c (.pointer none)] := by kernel_rfl
theorem z24 : zeroT Try.prog 24 = some [.i .i64 (0)] := by kernel_rfl
theorem z26 : zeroT Try.prog 26 = some [.c .nilFunc] := by kernel_rfl
theorem z27 : zeroT Try.prog 27 = some [.c (.pointer none)] := by kernel_rfl
theorem z29 : zeroT Try.prog 29 = some [.c .nilFunc] := by kernel_rfl
theorem z30 : zeroT Try.prog 30 = some [.c .nilFunc] := by kernel_rfl
theorem z31 : zeroT Try.prog 31 = some [.c (.slice none 0 0)] := by kernel_rfl
theorem z32 : zeroT Try.prog 32 = some [.i .i64 (0), .i .i64 (0), .c (.slice none 0 0), .s []] := by kernel_rfl
theorem f32 : fieldsT Try.prog 32 = some [(0, 1, 3), (1, 1, 3), (2, 1, 31), (3, 1, 9)] := by kernel_rfl
theorem z33 : zeroT Try.prog 33 = some [.i .i64 (0), .i .i64 (0), .c (.slice none 0 0), .s []] := by kernel_rfl
theorem f33 : fieldsT Try.prog 33 = some [(0, 1, 3), (1, 1, 3), (2, 1, 31), (3, 1, 9)] := by kernel_rfl
theorem z34 : zeroT Try.prog 34 = some [.c (.slice none 0 0)] := by kernel_rfl
theorem z35 : zeroT Try.prog 35 = some [.i .i64 (0), .i .i64 (0), .i .i64 (0), .i .i64 (0), .c (.slice none 0 0), .s [], .c (.slice none 0 0)] := by kernel_rfl
theorem f35 : fieldsT Try.prog 35 = some [(0, 1, 3), (1, 1, 3), (2, 4, 33), (6, 1, 34)] := by kernel_rfl
theorem z36 : zeroT Try.prog 36 = some [.i .i64 (0), .i .i64 (0), .i .i64 (0), .i .i64 (0), .c (.slice none 0 0), .s [], .c (.slice none 0 0)] := by kernel_rfl
theorem f36 : fieldsT Try.prog 36 = some [(0, 1, 3), (1, 1, 3), (2, 4, 33), (6, 1, 34)] := by kernel_rfl
theorem z37 : zeroT Try.prog 37 = some [.c .nilFunc] := by kernel_rfl
theorem z38 : zeroT Try.prog 38 = some [.c .nilFunc] := by kernel_rfl
theorem z39 : zeroT Try.prog 39 = some [.c .nilFunc] := by kernel_rfl
theorem z41 : zeroT Try.prog 41 = some [.c .nilFunc] := by kernel_rfl
theorem z42 : zeroT Try.prog 42 = some [.i .i64 (0), .i .i64 (0), .i .i64 (0), .s [], .c (.slice none 0 0)] := by kernel_rfl
theorem f42 : fieldsT Try.prog 42 = some [(0, 1, 3), (1, 1, 3), (2, 1, 3), (3, 1, 9), (4, 1, 31)] := by kernel_rfl
theorem z43 : zeroT Try.prog 43 = some [.i .i64 (0), .i .i64 (0), .i .i64 (0), .s [], .c (.slice none 0 0)] := by kernel_rfl
theorem f43 : fieldsT Try.prog 43 = some [(0, 1, 3), (1, 1, 3), (2, 1, 3), (3, 1, 9), (4, 1, 31)] := by kernel_rfl
theorem z44 : zeroT Try.prog 44 = some [.c .nilFunc] := by kernel_rfl
theorem z45 : zeroT Try.prog 45 = some [.c .nilFunc] := by kernel_rfl
theorem z46 : zeroT Try.prog 46 = some [.c (.slice none 0 0)] := by kernel_rfl
theorem z47 : zeroT Try.prog 47 = some [.c .nilFunc] := by kernel_rfl
theorem z48 : zeroT Try.prog 48 = some [.c .nilFunc] := by kernel_rfl
theorem z49 : zeroT Try.prog 49 = some [.c .nilFunc] := by kernel_rfl
theorem z50 : zeroT Try.prog 50 = some [.c (.map none)] := by kernel_rfl
theorem z51 : zeroT Try.prog 51 = some [.i .i64 (0), .c (.map none), .i .i64 (0), .b false, .i .i64 (0)] := by kernel_rfl
theorem f51 : fieldsT Try.prog 51 = some [(0, 1, 3), (1, 1, 50), (2, 1, 3), (3, 1, 4), (4, 1, 3)] := by kernel_rfl
theorem z52 : zeroT Try.prog 52 = some [.i .i64 (0), .c (.map none), .i .i64 (0), .b false, .i .i64 (0)] := by kernel_rfl
theorem f52 : fieldsT Try.prog 52 = some [(0, 1, 3), (1, 1, 50), (2, 1, 3), (3, 1, 4), (4, 1, 3)] := by kernel_rfl
theorem z53 : zeroT Try.prog 53 = some [.c (.pointer none), .s [], .i .i64 (0), .b false] := by kernel_rfl
theorem f53 : fieldsT Try.prog 53 = some [(0, 1, 23), (1, 1, 9), (2, 1, 3), (3, 1, 4)] := by kernel_rfl
theorem z54 : zeroT Try.prog 54 = some [.c (.pointer none), .s [], .i .i64 (0), .b false] := by kernel_rfl
theorem f54 : fieldsT Try.prog 54 = some [(0, 1, 23), (1, 1, 9), (2, 1, 3), (3, 1, 4)] := by kernel_rfl
theorem z55 : zeroT Try.prog 55 = some [.i .i64 (0), .i .i64 (0), .i .i64 (0), .i .i64 (0), .c (.slice none 0 0), .s [], .c (.slice none 0 0)] := by kernel_rfl
theorem f55 : fieldsT Try.prog 55 = some [(0, 7, 36)] := by kernel_rfl
theorem z56 : zeroT Try.prog 56 = some [.i .i64 (0), .i .i64 (0), .i .i64 (0), .i .i64 (0), .c (.slice none 0 0), .s [], .c (.slice none 0 0)] := by kernel_rfl
theorem f56 : fieldsT Try.prog 56 = some [(0, 7, 36)] := by kernel_rfl
theorem z57 : zeroT Try.prog 57 = some [.i .i64 (0), .i .i64 (0), .i .i64 (0), .i .i64 (0), .c (.slice none 0 0), .s [], .c (.slice none 0 0), .c (.pointer none), .s [], .i .i64 (0), .b false] := by kernel_rfl
theorem f57 : fieldsT Try.prog 57 = some [(0, 7, 56), (7, 4, 54)] := by kernel_rfl
theorem z58 : zeroT Try.prog 58 = some [.i .i64 (0), .i .i64 (0), .i .i64 (0), .i .i64 (0), .c (.slice none 0 0), .s [], .c (.slice none 0 0), .c (.pointer none), .s [], .i .i64 (0), .b false] := by kernel_rfl
theorem f58 : fieldsT Try.prog 58 = some [(0, 7, 56), (7, 4, 54)] := by kernel_rfl
theorem z60 : zeroT Try.prog 60 = some [.c .nilFunc] := by kernel_rfl
theorem z61 : zeroT Try.prog 61 = some [.c .nilFunc] := by kernel_rfl
theorem z62 : zeroT Try.prog 62 = some [.c .nilFunc] := by kernel_rfl
theorem z63 : zeroT Try.prog 63 = some [.c .nilFunc] := by kernel_rfl
theorem z64 : zeroT Try.prog 64 = some [.c .nilFunc] := by kernel_rfl
theorem z65 : zeroT Try.prog 65 = some [.c .nilFunc] := by kernel_rfl
theorem z66 : zeroT Try.prog 66 = some [.c .nilFunc] := by kernel_rfl
theorem z67 : zeroT Try.prog 67 = some [.c .nilFunc] := by kernel_rfl
theorem z68 : zeroT Try.prog 68 = some [.c .nilFunc] := by kernel_rfl
theorem z69 : zeroT Try.prog 69 = some [.c .nilFunc] := by kernel_rfl
theorem z70 : zeroT Try.prog 70 = some [.c .nilFunc] := by kernel_rfl
theorem z71 : zeroT Try.prog 71 = some [.c (.slice none 0 0)] := by kernel_rfl
theorem f71 : fieldsT Try.prog 71 = some [(0, 1, 46)] := by kernel_rfl
theorem z72 : zeroT Try.prog 72 = some [.c (.slice none 0 0)] := by kernel_rfl
theorem f72 : fieldsT Try.prog 72 = some [(0, 1, 46)] := by kernel_rfl
theorem z73 : zeroT Try.prog 73 = some [.c (.pointer none)] := by kernel_rfl
theorem z74 : zeroT Try.prog 74 = some [.c .nilFunc] := by kernel_rfl
theorem z75 : zeroT Try.prog 75 = some [.c (.slice none 0 0)] := by kernel_rfl
theorem z76 : zeroT Try.prog 76 = some [.c .nilFunc] := by kernel_rfl
theorem z77 : zeroT Try.prog 77 = some [.c .nilFunc] := by kernel_rfl
theorem z78 : zeroT Try.prog 78 = some [.c .nilFunc] := by kernel_rfl
theorem z79 : zeroT Try.prog 79 = some [.c .nilFunc] := by kernel_rfl
theorem z80 : zeroT Try.prog 80 = some [.c (.pointer none)] := by kernel_rfl
theorem z81 : zeroT Try.prog 81 = some [.c .nilFunc] := by kernel_rfl
theorem z82 : zeroT Try.prog 82 = some [.c (.slice none 0 0), .i .i64 (0)] := by kernel_rfl
theorem f82 : fieldsT Try.prog 82 = some [(0, 1, 46), (1, 1, 3)] := by kernel_rfl
theorem z83 : zeroT Try.prog 83 = some [.c (.slice none 0 0), .i .i64 (0)] := by kernel_rfl
theorem f83 : fieldsT Try.prog 83 = some [(0, 1, 46), (1, 1, 3)] := by kernel_rfl
theorem z84 : zeroT Try.prog 84 = some [.c (.slice none 0 0), .i .i64 (0)] := by kernel_rfl
theorem f84 : fieldsT Try.prog 84 = some [(0, 2, 83)] := by kernel_rfl
theorem z85 : zeroT Try.prog 85 = some [.c (.slice none 0 0), .i .i64 (0)] := by kernel_rfl
theorem f85 : fieldsT Try.prog 85 = some [(0, 2, 83)] := by kernel_rfl
theorem z86 : zeroT Try.prog 86 = some [.c (.pointer none)] := by kernel_rfl
theorem z88 : zeroT Try.prog 88 = some [.c .nilFunc] := by kernel_rfl
theorem z90 : zeroT Try.prog 90 = some [.c .nilFunc] := by kernel_rfl
theorem z92 : zeroT Try.prog 92 = some [.c .nilFunc] := by kernel_rfl
theorem z93 : zeroT Try.prog 93 = some [.c .nilFunc] := by kernel_rfl
theorem z94 : zeroT Try.prog 94 = some [.c (.slice none 0 0)] := by kernel_rfl
theorem z95 : zeroT Try.prog 95 = some [.c .nilFunc] := by kernel_rfl
theorem z96 : zeroT Try.prog 96 = some [.c .nilFunc] := by kernel_rfl
theorem z97 : zeroT Try.prog 97 = some [.c .nilFunc] := by kernel_rfl
theorem z98 : zeroT Try.prog 98 = some [.c (.pointer none)] := by kernel_rfl
theorem z99 : zeroT Try.prog 99 = some [.c .nilFunc] := by kernel_rfl
theorem z100 : zeroT Try.prog 100 = some [.c .nilFunc] := by kernel_rfl
theorem z101 : zeroT Try.prog 101 = some [.c .nilFunc] := by kernel_rfl
theorem z102 : zeroT Try.prog 102 = some [.c .nilFunc] := by kernel_rfl
theorem z103 : zeroT Try.prog 103 = some [.c .nilFunc] := by kernel_rfl
theorem z104 : zeroT Try.prog 104 = some [.c .nilFunc] := by kernel_rfl
theorem z106 : zeroT Try.prog 106 = some [.i .u32 (0)] := by kernel_rfl
theorem z107 : zeroT Try.prog 107 = some [.c .nilFunc] := by kernel_rfl
theorem z108 : zeroT Try.prog 108 = some [.c .nilFunc] := by kernel_rfl
theorem z109 : zeroT Try.prog 109 = some [.c (.pointer none)] := by kernel_rfl
theorem z110 : zeroT Try.prog 110 = some [.c (.slice none 0 0), .b false] := by kernel_rfl
theorem f110 : fieldsT Try.prog 110 = some [(0, 1, 46), (1, 1, 4)] := by kernel_rfl
theorem z111 : zeroT Try.prog 111 = some [.c (.slice none 0 0), .b false] := by kernel_rfl
theorem f111 : fieldsT Try.prog 111 = some [(0, 1, 46), (1, 1, 4)] := by kernel_rfl
theorem z112 : zeroT Try.prog 112 = some [.c .nilFunc] := by kernel_rfl
theorem z113 : zeroT Try.prog 113 = some [.c .nilFunc] := by kernel_rfl
theorem z114 : zeroT Try.prog 114 = some [.c (.pointer none)] := by kernel_rfl
theorem z115 : zeroT Try.prog 115 = some [.c .nilFunc] := by kernel_rfl
theorem z116 : zeroT Try.prog 116 = some [.c .nilFunc] := by kernel_rfl
theorem z117 : zeroT Try.prog 117 = some [.c .nilFunc] := by kernel_rfl
theorem z118 : zeroT Try.prog 118 = some [.c .nilFunc] := by kernel_rfl
theorem z119 : zeroT Try.prog 119 = some [.c .nilFunc] := by kernel_rfl
theorem z120 : zeroT Try.prog 120 = some [.i .u64 (0)] := by kernel_rfl
theorem z121 : zeroT Try.prog 121 = some [.i .u64 (0)] := by kernel_rfl
theorem z123 : zeroT Try.prog 123 = some [.c .nilFunc] := by kernel_rfl
theorem z124 : zeroT Try.prog 124 = some [.c .nilFunc] := by kernel_rfl
theorem z125 : zeroT Try.prog 125 = some [.c .nilFunc] := by kernel_rfl
theorem z126 : zeroT Try.prog 126 = some [.c .nilFunc] := by kernel_rfl
theorem z127 : zeroT Try.prog 127 = some [.c .nilFunc] := by kernel_rfl
theorem z128 : zeroT Try.prog 128 = some [.c (.pointer none), .c (.pointer none), .c (.pointer none), .s []] := by kernel_rfl
theorem f128 : fieldsT Try.prog 128 = some [(0, 1, 17), (1, 1, 17), (2, 1, 17), (3, 1, 9)] := by kernel_rfl
theorem z129 : zeroT Try.prog 129 = some [.c (.pointer none), .c (.pointer none), .c (.pointer none), .s []] := by kernel_rfl
theorem f129 : fieldsT Try.prog 129 = some [(0, 1, 17), (1, 1, 17), (2, 1, 17), (3, 1, 9)] := by kernel_rfl
theorem z133 : zeroT Try.prog 133 = some [.i .u8 (0)] := by kernel_rfl
theorem z134 : zeroT Try.prog 134 = some [.i .u8 (0)] := by kernel_rfl
theorem z135 : zeroT Try.prog 135 = some [.c .nilFunc] := by kernel_rfl
theorem z136 : zeroT Try.prog 136 = some [.c (.pointer none)] := by kernel_rfl
theorem z137 : zeroT Try.prog 137 = some [.i .i32 (0)] := by kernel_rfl
theorem z138 : zeroT Try.prog 138 = some [.i .i32 (0)] := by kernel_rfl
theorem z139 : zeroT Try.prog 139 = some [.i .u64 (0), .i .u64 (0), .i .u32 (0), .i .u8 (0), .i .u8 (0), .i .u8 (0), .i .u8 (0), .c .nilFunc, .c (.pointer none), .i .i32 (0), .i .i32 (0)] := by kernel_rfl
theorem f139 : fieldsT Try.prog 139 = some [(0, 1, 12), (1, 1, 12), (2, 1, 106), (3, 1, 133), (4, 1, 5), (5, 1, 5), (6, 1, 134), (7, 1, 135), (8, 1, 136), (9, 1, 137), (10, 1, 138)] := by kernel_rfl
theorem z140 : zeroT Try.prog 140 = some [.i .u64 (0), .i .u64 (0), .i .u32 (0), .i .u8 (0), .i .u8 (0), .i .u8 (0), .i .u8 (0), .c .nilFunc, .c (.pointer none), .i .i32 (0), .i .i32 (0)] := by kernel_rfl
theorem f140 : fieldsT Try.prog 140 = some [(0, 1, 12), (1, 1, 12), (2, 1, 106), (3, 1, 133), (4, 1, 5), (5, 1, 5), (6, 1, 134), (7, 1, 135), (8, 1, 136), (9, 1, 137), (10, 1, 138)] := by kernel_rfl
theorem z141 : zeroT Try.prog 141 = some [.c (.pointer none)] := by kernel_rfl
attribute [go_sem] c0 b0 c1 b1 c2 b2 c3 b3 c4 b4 c5 b5 c6 b6 c7 b7 c8 b8 c9 b9 c10 b10 c11 b11 c12 b12 c13 b13 c14 b14 c15 b15 c16 b16 c17 b17 c18 b18 c19 b19 c20 b20 c21 b21 c22 b22 c23 b23 c24 b24 c25 b25 c26 b26 c27 b27 c28 b28 c29 b29 c30 b30 c31 b31 c32 b32 c33 b33 c34 b34 c35 b35 c36 b36 c37 b37 c38 b38 c39 b39 c40 b40 c41 b41 c42 b42 c43 b43 c44 b44 c45 b45 c46 b46 c47 b47 c48 b48 c49 b49 c50 b50 c51 b51 c52 b52 c53 b53 c54 b54 c55 b55 c56 b56 c57 b57 c58 b58 c59 b59 c60 b60 c61 b61 c62 b62 c63 b63 c64 b64 c65 b65 c66 b66 c67 b67 c68 b68 c69 b69 c70 b70 c71 b71 c72 b72 c73 b73 c74 b74 c75 b75 c76 b76 c77 b77 c78 b78 c79 b79 c80 b80 c81 b81 c82 b82 c83 b83 c84 b84 c85 b85 c86 b86 c87 b87 c88 b88 c89 b89 c90 b90 c91 b91 c92 b92 c93 b93 c94 b94 c95 b95 c96 b96 c97 b97 c98 b98 c99 b99 c100 b100 c101 b101 c102 b102 c103 b103 c104 b104 c105 b105 c106 b106 c107 b107 c108 b108 c109 b109 c110 b110 c111 b111 c112 b112 c113 b113 c114 b114 c115 b115 c116 b116 c117 b117 c118 b118 c119 b119 c120 b120 c121 b121 c122 b122 c123 b123 c124 b124 c125 b125 c126 b126 c127 b127 c128 b128 c129 b129 c133 b133 c134 b134 c135 b135 c136 b136 c137 b137 c138 b138 c139 b139 c140 b140 c141 b141 z1 z2 z3 z4 z5 z6 z7 f7 z8 f8 z9 z10 z11 z12 z13 f13 z14 f14 z15 z16 z17 z18 f18 z19 f19 z20 z21 z22 z23 z24 z26 z27 z29 z30 z31 z32 f32 z33 f33 z34 z35 f35 z36 f36 z37 z38 z39 z41 z42 f42 z43 f43 z44 z45 z46 z47 z48 z49 z50 z51 f51 z52 f52 z53 f53 z54 f54 z55 f55 z56 f56 z57 f57 z58 f58 z60 z61 z62 z63 z64 z65 z66 z67 z68 z69 z70 z71 f71 z72 f72 z73 z74 z75 z76 z77 z78 z79 z80 z81 z82 f82 z83 f83 z84 f84 z85 f85 z86 z88 z90 z92 z93 z94 z95 z96 z97 z98 z99 z100 z101 z102 z103 z104 z106 z107 z108 z109 z110 f110 z111 f111 z112 z113 z114 z115 z116 z117 z118 z119 z120 z121 z123 z124 z125 z126 z127 z128 f128 z129 f129 z133 z134 z135 z136 z137 z138 z139 f139 z140 f140 z141
end GoD.TY
