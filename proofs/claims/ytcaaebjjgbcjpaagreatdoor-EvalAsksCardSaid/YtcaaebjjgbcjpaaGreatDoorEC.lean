import Derived.Test.YtcaaebjjgbcjpaaGreatDoorDC
import Derived.Test.YtcaaebjjgbcjpaaGreatDoorProg
import Derived.Lib.Bytealg
import Derived.Lib.DecodeN
/-! What the program's types are. -/
namespace GoD.TY
open Go GoD Go.Proofs
theorem c0 : Tryz.prog.cellsOf 0 = 1 := by kernel_rfl
theorem b0 : Tryz.prog.bytesOf 0 = 0 := by kernel_rfl
theorem c1 : Tryz.prog.cellsOf 1 = 1 := by kernel_rfl
theorem b1 : Tryz.prog.bytesOf 1 = 8 := by kernel_rfl
theorem c2 : Tryz.prog.cellsOf 2 = 1 := by kernel_rfl
theorem b2 : Tryz.prog.bytesOf 2 = 8 := by kernel_rfl
theorem c3 : Tryz.prog.cellsOf 3 = 1 := by kernel_rfl
theorem b3 : Tryz.prog.bytesOf 3 = 8 := by kernel_rfl
theorem c4 : Tryz.prog.cellsOf 4 = 1 := by kernel_rfl
theorem b4 : Tryz.prog.bytesOf 4 = 1 := by kernel_rfl
theorem c5 : Tryz.prog.cellsOf 5 = 1 := by kernel_rfl
theorem b5 : Tryz.prog.bytesOf 5 = 1 := by kernel_rfl
theorem c6 : Tryz.prog.cellsOf 6 = 1 := by kernel_rfl
theorem b6 : Tryz.prog.bytesOf 6 = 1 := by kernel_rfl
theorem c7 : Tryz.prog.cellsOf 7 = 4 := by kernel_rfl
theorem b7 : Tryz.prog.bytesOf 7 = 24 := by kernel_rfl
theorem c8 : Tryz.prog.cellsOf 8 = 4 := by kernel_rfl
theorem b8 : Tryz.prog.bytesOf 8 = 24 := by kernel_rfl
theorem c9 : Tryz.prog.cellsOf 9 = 1 := by kernel_rfl
theorem b9 : Tryz.prog.bytesOf 9 = 16 := by kernel_rfl
theorem c10 : Tryz.prog.cellsOf 10 = 1 := by kernel_rfl
theorem b10 : Tryz.prog.bytesOf 10 = 16 := by kernel_rfl
theorem c11 : Tryz.prog.cellsOf 11 = 1 := by kernel_rfl
theorem b11 : Tryz.prog.bytesOf 11 = 16 := by kernel_rfl
theorem c12 : Tryz.prog.cellsOf 12 = 1 := by kernel_rfl
theorem b12 : Tryz.prog.bytesOf 12 = 8 := by kernel_rfl
theorem c13 : Tryz.prog.cellsOf 13 = 2 := by kernel_rfl
theorem b13 : Tryz.prog.bytesOf 13 = 24 := by kernel_rfl
theorem c14 : Tryz.prog.cellsOf 14 = 2 := by kernel_rfl
theorem b14 : Tryz.prog.bytesOf 14 = 24 := by kernel_rfl
theorem c15 : Tryz.prog.cellsOf 15 = 1 := by kernel_rfl
theorem b15 : Tryz.prog.bytesOf 15 = 8 := by kernel_rfl
theorem c16 : Tryz.prog.cellsOf 16 = 1 := by kernel_rfl
theorem b16 : Tryz.prog.bytesOf 16 = 8 := by kernel_rfl
theorem c17 : Tryz.prog.cellsOf 17 = 1 := by kernel_rfl
theorem b17 : Tryz.prog.bytesOf 17 = 8 := by kernel_rfl
theorem c18 : Tryz.prog.cellsOf 18 = 1 := by kernel_rfl
theorem b18 : Tryz.prog.bytesOf 18 = 8 := by kernel_rfl
theorem c19 : Tryz.prog.cellsOf 19 = 1 := by kernel_rfl
theorem b19 : Tryz.prog.bytesOf 19 = 8 := by kernel_rfl
theorem c20 : Tryz.prog.cellsOf 20 = 1 := by kernel_rfl
theorem b20 : Tryz.prog.bytesOf 20 = 16 := by kernel_rfl
theorem c21 : Tryz.prog.cellsOf 21 = 1 := by kernel_rfl
theorem b21 : Tryz.prog.bytesOf 21 = 4 := by kernel_rfl
theorem c22 : Tryz.prog.cellsOf 22 = 2 := by kernel_rfl
theorem b22 : Tryz.prog.bytesOf 22 = 32 := by kernel_rfl
theorem c23 : Tryz.prog.cellsOf 23 = 2 := by kernel_rfl
theorem b23 : Tryz.prog.bytesOf 23 = 32 := by kernel_rfl
theorem c24 : Tryz.prog.cellsOf 24 = 1 := by kernel_rfl
theorem b24 : Tryz.prog.bytesOf 24 = 24 := by kernel_rfl
theorem c25 : Tryz.prog.cellsOf 25 = 8 := by kernel_rfl
theorem b25 : Tryz.prog.bytesOf 25 = 104 := by kernel_rfl
theorem c26 : Tryz.prog.cellsOf 26 = 8 := by kernel_rfl
theorem b26 : Tryz.prog.bytesOf 26 = 104 := by kernel_rfl
theorem c27 : Tryz.prog.cellsOf 27 = 1 := by kernel_rfl
theorem b27 : Tryz.prog.bytesOf 27 = 8 := by kernel_rfl
theorem c28 : Tryz.prog.cellsOf 28 = 1 := by kernel_rfl
theorem b28 : Tryz.prog.bytesOf 28 = 8 := by kernel_rfl
theorem c29 : Tryz.prog.cellsOf 29 = 1 := by kernel_rfl
theorem b29 : Tryz.prog.bytesOf 29 = 8 := by kernel_rfl
theorem c30 : Tryz.prog.cellsOf 30 = 1 := by kernel_rfl
theorem b30 : Tryz.prog.bytesOf 30 = 24 := by kernel_rfl
theorem c31 : Tryz.prog.cellsOf 31 = 1 := by kernel_rfl
theorem b31 : Tryz.prog.bytesOf 31 = 24 := by kernel_rfl
theorem c32 : Tryz.prog.cellsOf 32 = 1 := by kernel_rfl
theorem b32 : Tryz.prog.bytesOf 32 = 24 := by kernel_rfl
theorem c33 : Tryz.prog.cellsOf 33 = 5 := by kernel_rfl
theorem b33 : Tryz.prog.bytesOf 33 = 96 := by kernel_rfl
theorem c34 : Tryz.prog.cellsOf 34 = 5 := by kernel_rfl
theorem b34 : Tryz.prog.bytesOf 34 = 96 := by kernel_rfl
theorem c35 : Tryz.prog.cellsOf 35 = 1 := by kernel_rfl
theorem b35 : Tryz.prog.bytesOf 35 = 24 := by kernel_rfl
theorem c36 : Tryz.prog.cellsOf 36 = 4 := by kernel_rfl
theorem b36 : Tryz.prog.bytesOf 36 = 64 := by kernel_rfl
theorem c37 : Tryz.prog.cellsOf 37 = 4 := by kernel_rfl
theorem b37 : Tryz.prog.bytesOf 37 = 64 := by kernel_rfl
theorem c38 : Tryz.prog.cellsOf 38 = 5 := by kernel_rfl
theorem b38 : Tryz.prog.bytesOf 38 = 72 := by kernel_rfl
theorem c39 : Tryz.prog.cellsOf 39 = 5 := by kernel_rfl
theorem b39 : Tryz.prog.bytesOf 39 = 72 := by kernel_rfl
theorem c40 : Tryz.prog.cellsOf 40 = 5 := by kernel_rfl
theorem b40 : Tryz.prog.bytesOf 40 = 32 := by kernel_rfl
theorem c41 : Tryz.prog.cellsOf 41 = 5 := by kernel_rfl
theorem b41 : Tryz.prog.bytesOf 41 = 32 := by kernel_rfl
theorem c42 : Tryz.prog.cellsOf 42 = 1 := by kernel_rfl
theorem b42 : Tryz.prog.bytesOf 42 = 8 := by kernel_rfl
theorem c43 : Tryz.prog.cellsOf 43 = 1 := by kernel_rfl
theorem b43 : Tryz.prog.bytesOf 43 = 8 := by kernel_rfl
theorem c44 : Tryz.prog.cellsOf 44 = 1 := by kernel_rfl
theorem b44 : Tryz.prog.bytesOf 44 = 8 := by kernel_rfl
theorem c45 : Tryz.prog.cellsOf 45 = 2 := by kernel_rfl
theorem b45 : Tryz.prog.bytesOf 45 = 32 := by kernel_rfl
theorem c46 : Tryz.prog.cellsOf 46 = 2 := by kernel_rfl
theorem b46 : Tryz.prog.bytesOf 46 = 32 := by kernel_rfl
theorem c47 : Tryz.prog.cellsOf 47 = 1 := by kernel_rfl
theorem b47 : Tryz.prog.bytesOf 47 = 8 := by kernel_rfl
theorem c48 : Tryz.prog.cellsOf 48 = 1 := by kernel_rfl
theorem b48 : Tryz.prog.bytesOf 48 = 8 := by kernel_rfl
theorem c49 : Tryz.prog.cellsOf 49 = 2 := by kernel_rfl
theorem b49 : Tryz.prog.bytesOf 49 = 16 := by kernel_rfl
theorem c50 : Tryz.prog.cellsOf 50 = 2 := by kernel_rfl
theorem b50 : Tryz.prog.bytesOf 50 = 16 := by kernel_rfl
theorem c51 : Tryz.prog.cellsOf 51 = 1 := by kernel_rfl
theorem b51 : Tryz.prog.bytesOf 51 = 0 := by kernel_rfl
theorem c52 : Tryz.prog.cellsOf 52 = 1 := by kernel_rfl
theorem b52 : Tryz.prog.bytesOf 52 = 8 := by kernel_rfl
theorem c53 : Tryz.prog.cellsOf 53 = 1 := by kernel_rfl
theorem b53 : Tryz.prog.bytesOf 53 = 8 := by kernel_rfl
theorem c54 : Tryz.prog.cellsOf 54 = 10 := by kernel_rfl
theorem b54 : Tryz.prog.bytesOf 54 = 136 := by kernel_rfl
theorem c55 : Tryz.prog.cellsOf 55 = 10 := by kernel_rfl
theorem b55 : Tryz.prog.bytesOf 55 = 136 := by kernel_rfl
theorem c56 : Tryz.prog.cellsOf 56 = 3 := by kernel_rfl
theorem b56 : Tryz.prog.bytesOf 56 = 40 := by kernel_rfl
theorem c57 : Tryz.prog.cellsOf 57 = 3 := by kernel_rfl
theorem b57 : Tryz.prog.bytesOf 57 = 40 := by kernel_rfl
theorem c58 : Tryz.prog.cellsOf 58 = 23 := by kernel_rfl
theorem b58 : Tryz.prog.bytesOf 58 = 296 := by kernel_rfl
theorem c59 : Tryz.prog.cellsOf 59 = 23 := by kernel_rfl
theorem b59 : Tryz.prog.bytesOf 59 = 296 := by kernel_rfl
theorem c60 : Tryz.prog.cellsOf 60 = 1 := by kernel_rfl
theorem b60 : Tryz.prog.bytesOf 60 = 8 := by kernel_rfl
theorem c61 : Tryz.prog.cellsOf 61 = 1 := by kernel_rfl
theorem b61 : Tryz.prog.bytesOf 61 = 8 := by kernel_rfl
theorem c62 : Tryz.prog.cellsOf 62 = 1 := by kernel_rfl
theorem b62 : Tryz.prog.bytesOf 62 = 0 := by kernel_rfl
theorem c63 : Tryz.prog.cellsOf 63 = 1 := by kernel_rfl
theorem b63 : Tryz.prog.bytesOf 63 = 8 := by kernel_rfl
theorem c64 : Tryz.prog.cellsOf 64 = 1 := by kernel_rfl
theorem b64 : Tryz.prog.bytesOf 64 = 0 := by kernel_rfl
theorem c65 : Tryz.prog.cellsOf 65 = 1 := by kernel_rfl
theorem b65 : Tryz.prog.bytesOf 65 = 8 := by kernel_rfl
theorem c66 : Tryz.prog.cellsOf 66 = 1 := by kernel_rfl
theorem b66 : Tryz.prog.bytesOf 66 = 8 := by kernel_rfl
theorem c67 : Tryz.prog.cellsOf 67 = 1 := by kernel_rfl
theorem b67 : Tryz.prog.bytesOf 67 = 8 := by kernel_rfl
theorem c68 : Tryz.prog.cellsOf 68 = 1 := by kernel_rfl
theorem b68 : Tryz.prog.bytesOf 68 = 8 := by kernel_rfl
theorem c69 : Tryz.prog.cellsOf 69 = 2 := by kernel_rfl
theorem b69 : Tryz.prog.bytesOf 69 = 16 := by kernel_rfl
theorem c70 : Tryz.prog.cellsOf 70 = 2 := by kernel_rfl
theorem b70 : Tryz.prog.bytesOf 70 = 16 := by kernel_rfl
theorem c71 : Tryz.prog.cellsOf 71 = 1 := by kernel_rfl
theorem b71 : Tryz.prog.bytesOf 71 = 8 := by kernel_rfl
theorem c72 : Tryz.prog.cellsOf 72 = 1 := by kernel_rfl
theorem b72 : Tryz.prog.bytesOf 72 = 8 := by kernel_rfl
theorem c73 : Tryz.prog.cellsOf 73 = 1 := by kernel_rfl
theorem b73 : Tryz.prog.bytesOf 73 = 8 := by kernel_rfl
theorem c74 : Tryz.prog.cellsOf 74 = 1 := by kernel_rfl
theorem b74 : Tryz.prog.bytesOf 74 = 8 := by kernel_rfl
theorem c75 : Tryz.prog.cellsOf 75 = 1 := by kernel_rfl
theorem b75 : Tryz.prog.bytesOf 75 = 8 := by kernel_rfl
theorem c76 : Tryz.prog.cellsOf 76 = 1 := by kernel_rfl
theorem b76 : Tryz.prog.bytesOf 76 = 8 := by kernel_rfl
theorem c77 : Tryz.prog.cellsOf 77 = 4 := by kernel_rfl
theorem b77 : Tryz.prog.bytesOf 77 = 72 := by kernel_rfl
theorem c78 : Tryz.prog.cellsOf 78 = 4 := by kernel_rfl
theorem b78 : Tryz.prog.bytesOf 78 = 72 := by kernel_rfl
theorem c79 : Tryz.prog.cellsOf 79 = 1 := by kernel_rfl
theorem b79 : Tryz.prog.bytesOf 79 = 24 := by kernel_rfl
theorem c80 : Tryz.prog.cellsOf 80 = 1 := by kernel_rfl
theorem b80 : Tryz.prog.bytesOf 80 = 8 := by kernel_rfl
theorem c81 : Tryz.prog.cellsOf 81 = 1 := by kernel_rfl
theorem b81 : Tryz.prog.bytesOf 81 = 8 := by kernel_rfl
theorem c82 : Tryz.prog.cellsOf 82 = 1 := by kernel_rfl
theorem b82 : Tryz.prog.bytesOf 82 = 8 := by kernel_rfl
theorem c83 : Tryz.prog.cellsOf 83 = 1 := by kernel_rfl
theorem b83 : Tryz.prog.bytesOf 83 = 8 := by kernel_rfl
theorem c84 : Tryz.prog.cellsOf 84 = 1 := by kernel_rfl
theorem b84 : Tryz.prog.bytesOf 84 = 8 := by kernel_rfl
theorem c85 : Tryz.prog.cellsOf 85 = 1 := by kernel_rfl
theorem b85 : Tryz.prog.bytesOf 85 = 8 := by kernel_rfl
theorem c86 : Tryz.prog.cellsOf 86 = 1 := by kernel_rfl
theorem b86 : Tryz.prog.bytesOf 86 = 0 := by kernel_rfl
theorem c87 : Tryz.prog.cellsOf 87 = 1 := by kernel_rfl
theorem b87 : Tryz.prog.bytesOf 87 = 8 := by kernel_rfl
theorem c88 : Tryz.prog.cellsOf 88 = 1 := by kernel_rfl
theorem b88 : Tryz.prog.bytesOf 88 = 8 := by kernel_rfl
theorem c89 : Tryz.prog.cellsOf 89 = 1 := by kernel_rfl
theorem b89 : Tryz.prog.bytesOf 89 = 8 := by kernel_rfl
theorem c90 : Tryz.prog.cellsOf 90 = 1 := by kernel_rfl
theorem b90 : Tryz.prog.bytesOf 90 = 24 := by kernel_rfl
theorem c91 : Tryz.prog.cellsOf 91 = 2 := by kernel_rfl
theorem b91 : Tryz.prog.bytesOf 91 = 16 := by kernel_rfl
theorem c92 : Tryz.prog.cellsOf 92 = 1 := by kernel_rfl
theorem b92 : Tryz.prog.bytesOf 92 = 8 := by kernel_rfl
theorem c93 : Tryz.prog.cellsOf 93 = 1 := by kernel_rfl
theorem b93 : Tryz.prog.bytesOf 93 = 0 := by kernel_rfl
theorem c94 : Tryz.prog.cellsOf 94 = 1 := by kernel_rfl
theorem b94 : Tryz.prog.bytesOf 94 = 8 := by kernel_rfl
theorem c95 : Tryz.prog.cellsOf 95 = 1 := by kernel_rfl
theorem b95 : Tryz.prog.bytesOf 95 = 24 := by kernel_rfl
theorem c96 : Tryz.prog.cellsOf 96 = 1 := by kernel_rfl
theorem b96 : Tryz.prog.bytesOf 96 = 24 := by kernel_rfl
theorem c97 : Tryz.prog.cellsOf 97 = 4 := by kernel_rfl
theorem b97 : Tryz.prog.bytesOf 97 = 80 := by kernel_rfl
theorem c98 : Tryz.prog.cellsOf 98 = 4 := by kernel_rfl
theorem b98 : Tryz.prog.bytesOf 98 = 80 := by kernel_rfl
theorem c99 : Tryz.prog.cellsOf 99 = 1 := by kernel_rfl
theorem b99 : Tryz.prog.bytesOf 99 = 0 := by kernel_rfl
theorem c100 : Tryz.prog.cellsOf 100 = 1 := by kernel_rfl
theorem b100 : Tryz.prog.bytesOf 100 = 8 := by kernel_rfl
theorem c101 : Tryz.prog.cellsOf 101 = 5 := by kernel_rfl
theorem b101 : Tryz.prog.bytesOf 101 = 96 := by kernel_rfl
theorem c102 : Tryz.prog.cellsOf 102 = 5 := by kernel_rfl
theorem b102 : Tryz.prog.bytesOf 102 = 96 := by kernel_rfl
theorem c103 : Tryz.prog.cellsOf 103 = 4 := by kernel_rfl
theorem b103 : Tryz.prog.bytesOf 103 = 80 := by kernel_rfl
theorem c104 : Tryz.prog.cellsOf 104 = 4 := by kernel_rfl
theorem b104 : Tryz.prog.bytesOf 104 = 80 := by kernel_rfl
theorem c105 : Tryz.prog.cellsOf 105 = 9 := by kernel_rfl
theorem b105 : Tryz.prog.bytesOf 105 = 176 := by kernel_rfl
theorem c106 : Tryz.prog.cellsOf 106 = 9 := by kernel_rfl
theorem b106 : Tryz.prog.bytesOf 106 = 176 := by kernel_rfl
theorem c107 : Tryz.prog.cellsOf 107 = 1 := by kernel_rfl
theorem b107 : Tryz.prog.bytesOf 107 = 0 := by kernel_rfl
theorem c108 : Tryz.prog.cellsOf 108 = 1 := by kernel_rfl
theorem b108 : Tryz.prog.bytesOf 108 = 8 := by kernel_rfl
theorem c109 : Tryz.prog.cellsOf 109 = 1 := by kernel_rfl
theorem b109 : Tryz.prog.bytesOf 109 = 8 := by kernel_rfl
theorem c110 : Tryz.prog.cellsOf 110 = 1 := by kernel_rfl
theorem b110 : Tryz.prog.bytesOf 110 = 8 := by kernel_rfl
theorem c111 : Tryz.prog.cellsOf 111 = 1 := by kernel_rfl
theorem b111 : Tryz.prog.bytesOf 111 = 8 := by kernel_rfl
theorem c112 : Tryz.prog.cellsOf 112 = 1 := by kernel_rfl
theorem b112 : Tryz.prog.bytesOf 112 = 8 := by kernel_rfl
theorem c113 : Tryz.prog.cellsOf 113 = 1 := by kernel_rfl
theorem b113 : Tryz.prog.bytesOf 113 = 8 := by kernel_rfl
theorem c114 : Tryz.prog.cellsOf 114 = 1 := by kernel_rfl
theorem b114 : Tryz.prog.bytesOf 114 = 8 := by kernel_rfl
theorem c115 : Tryz.prog.cellsOf 115 = 1 := by kernel_rfl
theorem b115 : Tryz.prog.bytesOf 115 = 0 := by kernel_rfl
theorem c116 : Tryz.prog.cellsOf 116 = 1 := by kernel_rfl
theorem b116 : Tryz.prog.bytesOf 116 = 8 := by kernel_rfl
theorem c117 : Tryz.prog.cellsOf 117 = 1 := by kernel_rfl
theorem b117 : Tryz.prog.bytesOf 117 = 8 := by kernel_rfl
theorem c118 : Tryz.prog.cellsOf 118 = 1 := by kernel_rfl
theorem b118 : Tryz.prog.bytesOf 118 = 8 := by kernel_rfl
theorem c119 : Tryz.prog.cellsOf 119 = 1 := by kernel_rfl
theorem b119 : Tryz.prog.bytesOf 119 = 8 := by kernel_rfl
theorem c120 : Tryz.prog.cellsOf 120 = 1 := by kernel_rfl
theorem b120 : Tryz.prog.bytesOf 120 = 8 := by kernel_rfl
theorem c121 : Tryz.prog.cellsOf 121 = 1 := by kernel_rfl
theorem b121 : Tryz.prog.bytesOf 121 = 8 := by kernel_rfl
theorem c122 : Tryz.prog.cellsOf 122 = 1 := by kernel_rfl
theorem b122 : Tryz.prog.bytesOf 122 = 8 := by kernel_rfl
theorem c123 : Tryz.prog.cellsOf 123 = 1 := by kernel_rfl
theorem b123 : Tryz.prog.bytesOf 123 = 8 := by kernel_rfl
theorem c124 : Tryz.prog.cellsOf 124 = 1 := by kernel_rfl
theorem b124 : Tryz.prog.bytesOf 124 = 8 := by kernel_rfl
theorem c125 : Tryz.prog.cellsOf 125 = 1 := by kernel_rfl
theorem b125 : Tryz.prog.bytesOf 125 = 8 := by kernel_rfl
theorem c126 : Tryz.prog.cellsOf 126 = 1 := by kernel_rfl
theorem b126 : Tryz.prog.bytesOf 126 = 0 := by kernel_rfl
theorem c127 : Tryz.prog.cellsOf 127 = 1 := by kernel_rfl
theorem b127 : Tryz.prog.bytesOf 127 = 8 := by kernel_rfl
theorem c128 : Tryz.prog.cellsOf 128 = 1 := by kernel_rfl
theorem b128 : Tryz.prog.bytesOf 128 = 8 := by kernel_rfl
theorem c129 : Tryz.prog.cellsOf 129 = 1 := by kernel_rfl
theorem b129 : Tryz.prog.bytesOf 129 = 8 := by kernel_rfl
theorem c130 : Tryz.prog.cellsOf 130 = 1 := by kernel_rfl
theorem b130 : Tryz.prog.bytesOf 130 = 0 := by kernel_rfl
theorem c131 : Tryz.prog.cellsOf 131 = 1 := by kernel_rfl
theorem b131 : Tryz.prog.bytesOf 131 = 8 := by kernel_rfl
theorem c132 : Tryz.prog.cellsOf 132 = 1 := by kernel_rfl
theorem b132 : Tryz.prog.bytesOf 132 = 8 := by kernel_rfl
theorem c133 : Tryz.prog.cellsOf 133 = 1 := by kernel_rfl
theorem b133 : Tryz.prog.bytesOf 133 = 4 := by kernel_rfl
theorem c134 : Tryz.prog.cellsOf 134 = 1 := by kernel_rfl
theorem b134 : Tryz.prog.bytesOf 134 = 0 := by kernel_rfl
theorem c135 : Tryz.prog.cellsOf 135 = 1 := by kernel_rfl
theorem b135 : Tryz.prog.bytesOf 135 = 8 := by kernel_rfl
theorem c136 : Tryz.prog.cellsOf 136 = 1 := by kernel_rfl
theorem b136 : Tryz.prog.bytesOf 136 = 8 := by kernel_rfl
theorem c137 : Tryz.prog.cellsOf 137 = 1 := by kernel_rfl
theorem b137 : Tryz.prog.bytesOf 137 = 8 := by kernel_rfl
theorem c138 : Tryz.prog.cellsOf 138 = 1 := by kernel_rfl
theorem b138 : Tryz.prog.bytesOf 138 = 8 := by kernel_rfl
theorem c139 : Tryz.prog.cellsOf 139 = 1 := by kernel_rfl
theorem b139 : Tryz.prog.bytesOf 139 = 8 := by kernel_rfl
theorem c140 : Tryz.prog.cellsOf 140 = 1 := by kernel_rfl
theorem b140 : Tryz.prog.bytesOf 140 = 8 := by kernel_rfl
theorem c141 : Tryz.prog.cellsOf 141 = 1 := by kernel_rfl
theorem b141 : Tryz.prog.bytesOf 141 = 24 := by kernel_rfl
theorem c142 : Tryz.prog.cellsOf 142 = 1 := by kernel_rfl
theorem b142 : Tryz.prog.bytesOf 142 = 0 := by kernel_rfl
theorem c143 : Tryz.prog.cellsOf 143 = 1 := by kernel_rfl
theorem b143 : Tryz.prog.bytesOf 143 = 8 := by kernel_rfl
theorem c144 : Tryz.prog.cellsOf 144 = 1 := by kernel_rfl
theorem b144 : Tryz.prog.bytesOf 144 = 0 := by kernel_rfl
theorem c145 : Tryz.prog.cellsOf 145 = 1 := by kernel_rfl
theorem b145 : Tryz.prog.bytesOf 145 = 8 := by kernel_rfl
theorem c146 : Tryz.prog.cellsOf 146 = 3 := by kernel_rfl
theorem b146 : Tryz.prog.bytesOf 146 = 40 := by kernel_rfl
theorem c147 : Tryz.prog.cellsOf 147 = 3 := by kernel_rfl
theorem b147 : Tryz.prog.bytesOf 147 = 40 := by kernel_rfl
theorem c148 : Tryz.prog.cellsOf 148 = 11 := by kernel_rfl
theorem b148 : Tryz.prog.bytesOf 148 = 160 := by kernel_rfl
theorem c149 : Tryz.prog.cellsOf 149 = 11 := by kernel_rfl
theorem b149 : Tryz.prog.bytesOf 149 = 160 := by kernel_rfl
theorem c150 : Tryz.prog.cellsOf 150 = 1 := by kernel_rfl
theorem b150 : Tryz.prog.bytesOf 150 = 8 := by kernel_rfl
theorem c151 : Tryz.prog.cellsOf 151 = 1 := by kernel_rfl
theorem b151 : Tryz.prog.bytesOf 151 = 8 := by kernel_rfl
theorem c152 : Tryz.prog.cellsOf 152 = 1 := by kernel_rfl
theorem b152 : Tryz.prog.bytesOf 152 = 8 := by kernel_rfl
theorem c153 : Tryz.prog.cellsOf 153 = 2 := by kernel_rfl
theorem b153 : Tryz.prog.bytesOf 153 = 32 := by kernel_rfl
theorem c154 : Tryz.prog.cellsOf 154 = 2 := by kernel_rfl
theorem b154 : Tryz.prog.bytesOf 154 = 32 := by kernel_rfl
theorem c155 : Tryz.prog.cellsOf 155 = 1 := by kernel_rfl
theorem b155 : Tryz.prog.bytesOf 155 = 8 := by kernel_rfl
theorem c156 : Tryz.prog.cellsOf 156 = 4 := by kernel_rfl
theorem b156 : Tryz.prog.bytesOf 156 = 48 := by kernel_rfl
theorem c157 : Tryz.prog.cellsOf 157 = 4 := by kernel_rfl
theorem b157 : Tryz.prog.bytesOf 157 = 48 := by kernel_rfl
theorem c158 : Tryz.prog.cellsOf 158 = 1 := by kernel_rfl
theorem b158 : Tryz.prog.bytesOf 158 = 8 := by kernel_rfl
theorem c159 : Tryz.prog.cellsOf 159 = 1 := by kernel_rfl
theorem b159 : Tryz.prog.bytesOf 159 = 8 := by kernel_rfl
theorem c160 : Tryz.prog.cellsOf 160 = 3 := by kernel_rfl
theorem b160 : Tryz.prog.bytesOf 160 = 24 := by kernel_rfl
theorem c161 : Tryz.prog.cellsOf 161 = 3 := by kernel_rfl
theorem b161 : Tryz.prog.bytesOf 161 = 24 := by kernel_rfl
theorem c162 : Tryz.prog.cellsOf 162 = 1 := by kernel_rfl
theorem b162 : Tryz.prog.bytesOf 162 = 0 := by kernel_rfl
theorem c163 : Tryz.prog.cellsOf 163 = 1 := by kernel_rfl
theorem b163 : Tryz.prog.bytesOf 163 = 8 := by kernel_rfl
theorem c164 : Tryz.prog.cellsOf 164 = 1 := by kernel_rfl
theorem b164 : Tryz.prog.bytesOf 164 = 8 := by kernel_rfl
theorem c165 : Tryz.prog.cellsOf 165 = 1 := by kernel_rfl
theorem b165 : Tryz.prog.bytesOf 165 = 8 := by kernel_rfl
theorem c166 : Tryz.prog.cellsOf 166 = 1 := by kernel_rfl
theorem b166 : Tryz.prog.bytesOf 166 = 8 := by kernel_rfl
theorem c167 : Tryz.prog.cellsOf 167 = 1 := by kernel_rfl
theorem b167 : Tryz.prog.bytesOf 167 = 8 := by kernel_rfl
theorem c168 : Tryz.prog.cellsOf 168 = 1 := by kernel_rfl
theorem b168 : Tryz.prog.bytesOf 168 = 8 := by kernel_rfl
theorem c169 : Tryz.prog.cellsOf 169 = 1 := by kernel_rfl
theorem b169 : Tryz.prog.bytesOf 169 = 8 := by kernel_rfl
theorem c170 : Tryz.prog.cellsOf 170 = 1 := by kernel_rfl
theorem b170 : Tryz.prog.bytesOf 170 = 8 := by kernel_rfl
theorem c171 : Tryz.prog.cellsOf 171 = 1 := by kernel_rfl
theorem b171 : Tryz.prog.bytesOf 171 = 16 := by kernel_rfl
theorem c172 : Tryz.prog.cellsOf 172 = 1 := by kernel_rfl
theorem b172 : Tryz.prog.bytesOf 172 = 16 := by kernel_rfl
theorem c173 : Tryz.prog.cellsOf 173 = 11 := by kernel_rfl
theorem b173 : Tryz.prog.bytesOf 173 = 152 := by kernel_rfl
theorem c174 : Tryz.prog.cellsOf 174 = 11 := by kernel_rfl
theorem b174 : Tryz.prog.bytesOf 174 = 152 := by kernel_rfl
theorem c175 : Tryz.prog.cellsOf 175 = 1 := by kernel_rfl
theorem b175 : Tryz.prog.bytesOf 175 = 8 := by kernel_rfl
theorem c176 : Tryz.prog.cellsOf 176 = 1 := by kernel_rfl
theorem b176 : Tryz.prog.bytesOf 176 = 8 := by kernel_rfl
theorem c177 : Tryz.prog.cellsOf 177 = 1 := by kernel_rfl
theorem b177 : Tryz.prog.bytesOf 177 = 8 := by kernel_rfl
theorem c178 : Tryz.prog.cellsOf 178 = 1 := by kernel_rfl
theorem b178 : Tryz.prog.bytesOf 178 = 8 := by kernel_rfl
theorem c179 : Tryz.prog.cellsOf 179 = 1 := by kernel_rfl
theorem b179 : Tryz.prog.bytesOf 179 = 24 := by kernel_rfl
theorem c180 : Tryz.prog.cellsOf 180 = 1 := by kernel_rfl
theorem b180 : Tryz.prog.bytesOf 180 = 8 := by kernel_rfl
theorem c181 : Tryz.prog.cellsOf 181 = 1 := by kernel_rfl
theorem b181 : Tryz.prog.bytesOf 181 = 8 := by kernel_rfl
theorem c182 : Tryz.prog.cellsOf 182 = 1 := by kernel_rfl
theorem b182 : Tryz.prog.bytesOf 182 = 0 := by kernel_rfl
theorem c183 : Tryz.prog.cellsOf 183 = 1 := by kernel_rfl
theorem b183 : Tryz.prog.bytesOf 183 = 8 := by kernel_rfl
theorem c184 : Tryz.prog.cellsOf 184 = 1 := by kernel_rfl
theorem b184 : Tryz.prog.bytesOf 184 = 8 := by kernel_rfl
theorem c185 : Tryz.prog.cellsOf 185 = 1 := by kernel_rfl
theorem b185 : Tryz.prog.bytesOf 185 = 8 := by kernel_rfl
theorem c186 : Tryz.prog.cellsOf 186 = 1 := by kernel_rfl
theorem b186 : Tryz.prog.bytesOf 186 = 8 := by kernel_rfl
theorem c187 : Tryz.prog.cellsOf 187 = 1 := by kernel_rfl
theorem b187 : Tryz.prog.bytesOf 187 = 8 := by kernel_rfl
theorem c188 : Tryz.prog.cellsOf 188 = 1 := by kernel_rfl
theorem b188 : Tryz.prog.bytesOf 188 = 8 := by kernel_rfl
theorem c189 : Tryz.prog.cellsOf 189 = 1 := by kernel_rfl
theorem b189 : Tryz.prog.bytesOf 189 = 0 := by kernel_rfl
theorem c190 : Tryz.prog.cellsOf 190 = 1 := by kernel_rfl
theorem b190 : Tryz.prog.bytesOf 190 = 8 := by kernel_rfl
theorem c191 : Tryz.prog.cellsOf 191 = 1 := by kernel_rfl
theorem b191 : Tryz.prog.bytesOf 191 = 8 := by kernel_rfl
theorem c192 : Tryz.prog.cellsOf 192 = 1 := by kernel_rfl
theorem b192 : Tryz.prog.bytesOf 192 = 8 := by kernel_rfl
theorem c193 : Tryz.prog.cellsOf 193 = 1 := by kernel_rfl
theorem b193 : Tryz.prog.bytesOf 193 = 24 := by kernel_rfl
theorem c194 : Tryz.prog.cellsOf 194 = 1 := by kernel_rfl
theorem b194 : Tryz.prog.bytesOf 194 = 8 := by kernel_rfl
theorem c195 : Tryz.prog.cellsOf 195 = 2 := by kernel_rfl
theorem b195 : Tryz.prog.bytesOf 195 = 40 := by kernel_rfl
theorem c196 : Tryz.prog.cellsOf 196 = 2 := by kernel_rfl
theorem b196 : Tryz.prog.bytesOf 196 = 40 := by kernel_rfl
theorem c197 : Tryz.prog.cellsOf 197 = 1 := by kernel_rfl
theorem b197 : Tryz.prog.bytesOf 197 = 0 := by kernel_rfl
theorem c198 : Tryz.prog.cellsOf 198 = 1 := by kernel_rfl
theorem b198 : Tryz.prog.bytesOf 198 = 8 := by kernel_rfl
theorem c199 : Tryz.prog.cellsOf 199 = 1 := by kernel_rfl
theorem b199 : Tryz.prog.bytesOf 199 = 24 := by kernel_rfl
theorem c200 : Tryz.prog.cellsOf 200 = 1 := by kernel_rfl
theorem b200 : Tryz.prog.bytesOf 200 = 8 := by kernel_rfl
theorem c201 : Tryz.prog.cellsOf 201 = 1 := by kernel_rfl
theorem b201 : Tryz.prog.bytesOf 201 = 8 := by kernel_rfl
theorem c202 : Tryz.prog.cellsOf 202 = 1 := by kernel_rfl
theorem b202 : Tryz.prog.bytesOf 202 = 8 := by kernel_rfl
theorem c203 : Tryz.prog.cellsOf 203 = 1 := by kernel_rfl
theorem b203 : Tryz.prog.bytesOf 203 = 8 := by kernel_rfl
theorem c204 : Tryz.prog.cellsOf 204 = 1 := by kernel_rfl
theorem b204 : Tryz.prog.bytesOf 204 = 8 := by kernel_rfl
theorem c205 : Tryz.prog.cellsOf 205 = 1 := by kernel_rfl
theorem b205 : Tryz.prog.bytesOf 205 = 8 := by kernel_rfl
theorem c206 : Tryz.prog.cellsOf 206 = 2 := by kernel_rfl
theorem b206 : Tryz.prog.bytesOf 206 = 24 := by kernel_rfl
theorem c207 : Tryz.prog.cellsOf 207 = 2 := by kernel_rfl
theorem b207 : Tryz.prog.bytesOf 207 = 24 := by kernel_rfl
theorem c208 : Tryz.prog.cellsOf 208 = 3 := by kernel_rfl
theorem b208 : Tryz.prog.bytesOf 208 = 48 := by kernel_rfl
theorem c209 : Tryz.prog.cellsOf 209 = 3 := by kernel_rfl
theorem b209 : Tryz.prog.bytesOf 209 = 48 := by kernel_rfl
theorem c210 : Tryz.prog.cellsOf 210 = 1 := by kernel_rfl
theorem b210 : Tryz.prog.bytesOf 210 = 8 := by kernel_rfl
theorem c211 : Tryz.prog.cellsOf 211 = 1 := by kernel_rfl
theorem b211 : Tryz.prog.bytesOf 211 = 8 := by kernel_rfl
theorem c212 : Tryz.prog.cellsOf 212 = 3 := by kernel_rfl
theorem b212 : Tryz.prog.bytesOf 212 = 32 := by kernel_rfl
theorem c213 : Tryz.prog.cellsOf 213 = 3 := by kernel_rfl
theorem b213 : Tryz.prog.bytesOf 213 = 32 := by kernel_rfl
theorem c214 : Tryz.prog.cellsOf 214 = 1 := by kernel_rfl
theorem b214 : Tryz.prog.bytesOf 214 = 8 := by kernel_rfl
theorem c215 : Tryz.prog.cellsOf 215 = 1 := by kernel_rfl
theorem b215 : Tryz.prog.bytesOf 215 = 8 := by kernel_rfl
theorem c216 : Tryz.prog.cellsOf 216 = 1 := by kernel_rfl
theorem b216 : Tryz.prog.bytesOf 216 = 8 := by kernel_rfl
theorem c217 : Tryz.prog.cellsOf 217 = 1 := by kernel_rfl
theorem b217 : Tryz.prog.bytesOf 217 = 8 := by kernel_rfl
theorem c218 : Tryz.prog.cellsOf 218 = 1 := by kernel_rfl
theorem b218 : Tryz.prog.bytesOf 218 = 8 := by kernel_rfl
theorem c219 : Tryz.prog.cellsOf 219 = 1 := by kernel_rfl
theorem b219 : Tryz.prog.bytesOf 219 = 8 := by kernel_rfl
theorem c220 : Tryz.prog.cellsOf 220 = 1 := by kernel_rfl
theorem b220 : Tryz.prog.bytesOf 220 = 8 := by kernel_rfl
theorem c221 : Tryz.prog.cellsOf 221 = 1 := by kernel_rfl
theorem b221 : Tryz.prog.bytesOf 221 = 8 := by kernel_rfl
theorem c222 : Tryz.prog.cellsOf 222 = 1 := by kernel_rfl
theorem b222 : Tryz.prog.bytesOf 222 = 8 := by kernel_rfl
theorem c223 : Tryz.prog.cellsOf 223 = 1 := by kernel_rfl
theorem b223 : Tryz.prog.bytesOf 223 = 8 := by kernel_rfl
theorem c227 : Tryz.prog.cellsOf 227 = 1 := by kernel_rfl
theorem b227 : Tryz.prog.bytesOf 227 = 4 := by kernel_rfl
theorem c228 : Tryz.prog.cellsOf 228 = 1 := by kernel_rfl
theorem b228 : Tryz.prog.bytesOf 228 = 4 := by kernel_rfl
theorem c229 : Tryz.prog.cellsOf 229 = 2 := by kernel_rfl
theorem b229 : Tryz.prog.bytesOf 229 = 8 := by kernel_rfl
theorem c230 : Tryz.prog.cellsOf 230 = 2 := by kernel_rfl
theorem b230 : Tryz.prog.bytesOf 230 = 8 := by kernel_rfl
theorem c231 : Tryz.prog.cellsOf 231 = 2 := by kernel_rfl
theorem b231 : Tryz.prog.bytesOf 231 = 8 := by kernel_rfl
theorem c232 : Tryz.prog.cellsOf 232 = 2 := by kernel_rfl
theorem b232 : Tryz.prog.bytesOf 232 = 8 := by kernel_rfl
theorem c233 : Tryz.prog.cellsOf 233 = 3 := by kernel_rfl
theorem b233 : Tryz.prog.bytesOf 233 = 12 := by kernel_rfl
theorem c234 : Tryz.prog.cellsOf 234 = 3 := by kernel_rfl
theorem b234 : Tryz.prog.bytesOf 234 = 12 := by kernel_rfl
theorem c235 : Tryz.prog.cellsOf 235 = 1 := by kernel_rfl
theorem b235 : Tryz.prog.bytesOf 235 = 16 := by kernel_rfl
theorem c236 : Tryz.prog.cellsOf 236 = 1 := by kernel_rfl
theorem b236 : Tryz.prog.bytesOf 236 = 16 := by kernel_rfl
theorem c237 : Tryz.prog.cellsOf 237 = 5 := by kernel_rfl
theorem b237 : Tryz.prog.bytesOf 237 = 56 := by kernel_rfl
theorem c238 : Tryz.prog.cellsOf 238 = 5 := by kernel_rfl
theorem b238 : Tryz.prog.bytesOf 238 = 56 := by kernel_rfl
theorem c239 : Tryz.prog.cellsOf 239 = 1 := by kernel_rfl
theorem b239 : Tryz.prog.bytesOf 239 = 8 := by kernel_rfl
theorem c240 : Tryz.prog.cellsOf 240 = 1 := by kernel_rfl
theorem b240 : Tryz.prog.bytesOf 240 = 8 := by kernel_rfl
theorem c241 : Tryz.prog.cellsOf 241 = 1 := by kernel_rfl
theorem b241 : Tryz.prog.bytesOf 241 = 8 := by kernel_rfl
theorem c242 : Tryz.prog.cellsOf 242 = 1 := by kernel_rfl
theorem b242 : Tryz.prog.bytesOf 242 = 0 := by kernel_rfl
theorem c243 : Tryz.prog.cellsOf 243 = 1 := by kernel_rfl
theorem b243 : Tryz.prog.bytesOf 243 = 8 := by kernel_rfl
theorem c244 : Tryz.prog.cellsOf 244 = 1 := by kernel_rfl
theorem b244 : Tryz.prog.bytesOf 244 = 0 := by kernel_rfl
theorem c245 : Tryz.prog.cellsOf 245 = 1 := by kernel_rfl
theorem b245 : Tryz.prog.bytesOf 245 = 8 := by kernel_rfl
theorem c246 : Tryz.prog.cellsOf 246 = 1 := by kernel_rfl
theorem b246 : Tryz.prog.bytesOf 246 = 8 := by kernel_rfl
theorem c247 : Tryz.prog.cellsOf 247 = 1 := by kernel_rfl
theorem b247 : Tryz.prog.bytesOf 247 = 8 := by kernel_rfl
theorem c248 : Tryz.prog.cellsOf 248 = 1 := by kernel_rfl
theorem b248 : Tryz.prog.bytesOf 248 = 8 := by kernel_rfl
theorem c249 : Tryz.prog.cellsOf 249 = 1 := by kernel_rfl
theorem b249 : Tryz.prog.bytesOf 249 = 8 := by kernel_rfl
theorem c250 : Tryz.prog.cellsOf 250 = 1 := by kernel_rfl
theorem b250 : Tryz.prog.bytesOf 250 = 8 := by kernel_rfl
theorem c251 : Tryz.prog.cellsOf 251 = 1 := by kernel_rfl
theorem b251 : Tryz.prog.bytesOf 251 = 8 := by kernel_rfl
theorem c252 : Tryz.prog.cellsOf 252 = 1 := by kernel_rfl
theorem b252 : Tryz.prog.bytesOf 252 = 8 := by kernel_rfl
theorem c253 : Tryz.prog.cellsOf 253 = 1 := by kernel_rfl
theorem b253 : Tryz.prog.bytesOf 253 = 8 := by kernel_rfl
theorem c254 : Tryz.prog.cellsOf 254 = 1 := by kernel_rfl
theorem b254 : Tryz.prog.bytesOf 254 = 8 := by kernel_rfl
theorem c255 : Tryz.prog.cellsOf 255 = 1 := by kernel_rfl
theorem b255 : Tryz.prog.bytesOf 255 = 8 := by kernel_rfl
theorem c256 : Tryz.prog.cellsOf 256 = 1 := by kernel_rfl
theorem b256 : Tryz.prog.bytesOf 256 = 0 := by kernel_rfl
theorem c257 : Tryz.prog.cellsOf 257 = 1 := by kernel_rfl
theorem b257 : Tryz.prog.bytesOf 257 = 8 := by kernel_rfl
theorem c258 : Tryz.prog.cellsOf 258 = 1 := by kernel_rfl
theorem b258 : Tryz.prog.bytesOf 258 = 8 := by kernel_rfl
theorem c259 : Tryz.prog.cellsOf 259 = 1 := by kernel_rfl
theorem b259 : Tryz.prog.bytesOf 259 = 8 := by kernel_rfl
theorem c260 : Tryz.prog.cellsOf 260 = 5 := by kernel_rfl
theorem b260 : Tryz.prog.bytesOf 260 = 72 := by kernel_rfl
theorem c261 : Tryz.prog.cellsOf 261 = 5 := by kernel_rfl
theorem b261 : Tryz.prog.bytesOf 261 = 72 := by kernel_rfl
theorem c262 : Tryz.prog.cellsOf 262 = 1 := by kernel_rfl
theorem b262 : Tryz.prog.bytesOf 262 = 8 := by kernel_rfl
theorem c263 : Tryz.prog.cellsOf 263 = 1 := by kernel_rfl
theorem b263 : Tryz.prog.bytesOf 263 = 0 := by kernel_rfl
theorem c264 : Tryz.prog.cellsOf 264 = 1 := by kernel_rfl
theorem b264 : Tryz.prog.bytesOf 264 = 8 := by kernel_rfl
theorem c265 : Tryz.prog.cellsOf 265 = 1 := by kernel_rfl
theorem b265 : Tryz.prog.bytesOf 265 = 0 := by kernel_rfl
theorem c266 : Tryz.prog.cellsOf 266 = 1 := by kernel_rfl
theorem b266 : Tryz.prog.bytesOf 266 = 8 := by kernel_rfl
theorem c267 : Tryz.prog.cellsOf 267 = 1 := by kernel_rfl
theorem b267 : Tryz.prog.bytesOf 267 = 8 := by kernel_rfl
theorem c268 : Tryz.prog.cellsOf 268 = 1 := by kernel_rfl
theorem b268 : Tryz.prog.bytesOf 268 = 8 := by kernel_rfl
theorem c269 : Tryz.prog.cellsOf 269 = 1 := by kernel_rfl
theorem b269 : Tryz.prog.bytesOf 269 = 8 := by kernel_rfl
theorem c270 : Tryz.prog.cellsOf 270 = 1 := by kernel_rfl
theorem b270 : Tryz.prog.bytesOf 270 = 8 := by kernel_rfl
theorem c271 : Tryz.prog.cellsOf 271 = 1 := by kernel_rfl
theorem b271 : Tryz.prog.bytesOf 271 = 8 := by kernel_rfl
theorem c272 : Tryz.prog.cellsOf 272 = 1 := by kernel_rfl
theorem b272 : Tryz.prog.bytesOf 272 = 8 := by kernel_rfl
theorem c273 : Tryz.prog.cellsOf 273 = 1 := by kernel_rfl
theorem b273 : Tryz.prog.bytesOf 273 = 8 := by kernel_rfl
theorem c274 : Tryz.prog.cellsOf 274 = 1 := by kernel_rfl
theorem b274 : Tryz.prog.bytesOf 274 = 8 := by kernel_rfl
theorem c275 : Tryz.prog.cellsOf 275 = 2 := by kernel_rfl
theorem b275 : Tryz.prog.bytesOf 275 = 16 := by kernel_rfl
theorem c276 : Tryz.prog.cellsOf 276 = 2 := by kernel_rfl
theorem b276 : Tryz.prog.bytesOf 276 = 16 := by kernel_rfl
theorem c277 : Tryz.prog.cellsOf 277 = 1 := by kernel_rfl
theorem b277 : Tryz.prog.bytesOf 277 = 8 := by kernel_rfl
theorem c278 : Tryz.prog.cellsOf 278 = 1 := by kernel_rfl
theorem b278 : Tryz.prog.bytesOf 278 = 0 := by kernel_rfl
theorem c279 : Tryz.prog.cellsOf 279 = 1 := by kernel_rfl
theorem b279 : Tryz.prog.bytesOf 279 = 8 := by kernel_rfl
theorem c280 : Tryz.prog.cellsOf 280 = 1 := by kernel_rfl
theorem b280 : Tryz.prog.bytesOf 280 = 8 := by kernel_rfl
theorem c281 : Tryz.prog.cellsOf 281 = 1 := by kernel_rfl
theorem b281 : Tryz.prog.bytesOf 281 = 8 := by kernel_rfl
theorem c283 : Tryz.prog.cellsOf 283 = 2 := by kernel_rfl
theorem b283 : Tryz.prog.bytesOf 283 = 2 := by kernel_rfl
theorem c284 : Tryz.prog.cellsOf 284 = 2 := by kernel_rfl
theorem b284 : Tryz.prog.bytesOf 284 = 2 := by kernel_rfl
theorem c285 : Tryz.prog.cellsOf 285 = 32 := by kernel_rfl
theorem b285 : Tryz.prog.bytesOf 285 = 32 := by kernel_rfl
theorem c286 : Tryz.prog.cellsOf 286 = 1 := by kernel_rfl
theorem b286 : Tryz.prog.bytesOf 286 = 8 := by kernel_rfl
theorem c287 : Tryz.prog.cellsOf 287 = 1 := by kernel_rfl
theorem b287 : Tryz.prog.bytesOf 287 = 8 := by kernel_rfl
theorem c288 : Tryz.prog.cellsOf 288 = 1 := by kernel_rfl
theorem b288 : Tryz.prog.bytesOf 288 = 8 := by kernel_rfl
theorem c289 : Tryz.prog.cellsOf 289 = 1 := by kernel_rfl
theorem b289 : Tryz.prog.bytesOf 289 = 8 := by kernel_rfl
theorem c290 : Tryz.prog.cellsOf 290 = 1 := by kernel_rfl
theorem b290 : Tryz.prog.bytesOf 290 = 8 := by kernel_rfl
theorem c291 : Tryz.prog.cellsOf 291 = 2 := by kernel_rfl
theorem b291 : Tryz.prog.bytesOf 291 = 32 := by kernel_rfl
theorem c292 : Tryz.prog.cellsOf 292 = 2 := by kernel_rfl
theorem b292 : Tryz.prog.bytesOf 292 = 32 := by kernel_rfl
theorem c293 : Tryz.prog.cellsOf 293 = 1 := by kernel_rfl
theorem b293 : Tryz.prog.bytesOf 293 = 8 := by kernel_rfl
theorem c294 : Tryz.prog.cellsOf 294 = 1 := by kernel_rfl
theorem b294 : Tryz.prog.bytesOf 294 = 16 := by kernel_rfl
theorem c295 : Tryz.prog.cellsOf 295 = 1 := by kernel_rfl
theorem b295 : Tryz.prog.bytesOf 295 = 16 := by kernel_rfl
theorem c296 : Tryz.prog.cellsOf 296 = 1 := by kernel_rfl
theorem b296 : Tryz.prog.bytesOf 296 = 0 := by kernel_rfl
theorem c297 : Tryz.prog.cellsOf 297 = 1 := by kernel_rfl
theorem b297 : Tryz.prog.bytesOf 297 = 8 := by kernel_rfl
theorem c298 : Tryz.prog.cellsOf 298 = 1 := by kernel_rfl
theorem b298 : Tryz.prog.bytesOf 298 = 8 := by kernel_rfl
theorem c299 : Tryz.prog.cellsOf 299 = 1 := by kernel_rfl
theorem b299 : Tryz.prog.bytesOf 299 = 8 := by kernel_rfl
theorem c300 : Tryz.prog.cellsOf 300 = 1 := by kernel_rfl
theorem b300 : Tryz.prog.bytesOf 300 = 8 := by kernel_rfl
theorem c301 : Tryz.prog.cellsOf 301 = 1 := by kernel_rfl
theorem b301 : Tryz.prog.bytesOf 301 = 8 := by kernel_rfl
theorem c302 : Tryz.prog.cellsOf 302 = 1 := by kernel_rfl
theorem b302 : Tryz.prog.bytesOf 302 = 8 := by kernel_rfl
theorem c303 : Tryz.prog.cellsOf 303 = 5 := by kernel_rfl
theorem b303 : Tryz.prog.bytesOf 303 = 72 := by kernel_rfl
theorem c304 : Tryz.prog.cellsOf 304 = 1 := by kernel_rfl
theorem b304 : Tryz.prog.bytesOf 304 = 8 := by kernel_rfl
theorem c305 : Tryz.prog.cellsOf 305 = 1 := by kernel_rfl
theorem b305 : Tryz.prog.bytesOf 305 = 8 := by kernel_rfl
theorem c306 : Tryz.prog.cellsOf 306 = 1 := by kernel_rfl
theorem b306 : Tryz.prog.bytesOf 306 = 8 := by kernel_rfl
theorem c307 : Tryz.prog.cellsOf 307 = 1 := by kernel_rfl
theorem b307 : Tryz.prog.bytesOf 307 = 8 := by kernel_rfl
theorem c308 : Tryz.prog.cellsOf 308 = 1 := by kernel_rfl
theorem b308 : Tryz.prog.bytesOf 308 = 24 := by kernel_rfl
theorem c309 : Tryz.prog.cellsOf 309 = 1 := by kernel_rfl
theorem b309 : Tryz.prog.bytesOf 309 = 8 := by kernel_rfl
theorem c310 : Tryz.prog.cellsOf 310 = 1 := by kernel_rfl
theorem b310 : Tryz.prog.bytesOf 310 = 8 := by kernel_rfl
theorem c311 : Tryz.prog.cellsOf 311 = 1 := by kernel_rfl
theorem b311 : Tryz.prog.bytesOf 311 = 8 := by kernel_rfl
theorem c312 : Tryz.prog.cellsOf 312 = 1 := by kernel_rfl
theorem b312 : Tryz.prog.bytesOf 312 = 8 := by kernel_rfl
theorem c313 : Tryz.prog.cellsOf 313 = 1 := by kernel_rfl
theorem b313 : Tryz.prog.bytesOf 313 = 8 := by kernel_rfl
theorem c314 : Tryz.prog.cellsOf 314 = 1 := by kernel_rfl
theorem b314 : Tryz.prog.bytesOf 314 = 8 := by kernel_rfl
theorem c315 : Tryz.prog.cellsOf 315 = 1 := by kernel_rfl
theorem b315 : Tryz.prog.bytesOf 315 = 8 := by kernel_rfl
theorem c316 : Tryz.prog.cellsOf 316 = 1 := by kernel_rfl
theorem b316 : Tryz.prog.bytesOf 316 = 8 := by kernel_rfl
theorem c318 : Tryz.prog.cellsOf 318 = 1 := by kernel_rfl
theorem b318 : Tryz.prog.bytesOf 318 = 8 := by kernel_rfl
theorem c322 : Tryz.prog.cellsOf 322 = 1 := by kernel_rfl
theorem b322 : Tryz.prog.bytesOf 322 = 8 := by kernel_rfl
theorem c323 : Tryz.prog.cellsOf 323 = 1 := by kernel_rfl
theorem b323 : Tryz.prog.bytesOf 323 = 8 := by kernel_rfl
theorem c324 : Tryz.prog.cellsOf 324 = 1 := by kernel_rfl
theorem b324 : Tryz.prog.bytesOf 324 = 8 := by kernel_rfl
theorem c325 : Tryz.prog.cellsOf 325 = 1 := by kernel_rfl
theorem b325 : Tryz.prog.bytesOf 325 = 8 := by kernel_rfl
theorem c326 : Tryz.prog.cellsOf 326 = 1 := by kernel_rfl
theorem b326 : Tryz.prog.bytesOf 326 = 8 := by kernel_rfl
theorem c327 : Tryz.prog.cellsOf 327 = 1 := by kernel_rfl
theorem b327 : Tryz.prog.bytesOf 327 = 8 := by kernel_rfl
theorem c328 : Tryz.prog.cellsOf 328 = 1 := by kernel_rfl
theorem b328 : Tryz.prog.bytesOf 328 = 8 := by kernel_rfl
theorem c329 : Tryz.prog.cellsOf 329 = 1 := by kernel_rfl
theorem b329 : Tryz.prog.bytesOf 329 = 8 := by kernel_rfl
theorem c330 : Tryz.prog.cellsOf 330 = 1 := by kernel_rfl
theorem b330 : Tryz.prog.bytesOf 330 = 8 := by kernel_rfl
theorem c331 : Tryz.prog.cellsOf 331 = 1 := by kernel_rfl
theorem b331 : Tryz.prog.bytesOf 331 = 8 := by kernel_rfl
theorem c332 : Tryz.prog.cellsOf 332 = 1 := by kernel_rfl
theorem b332 : Tryz.prog.bytesOf 332 = 16 := by kernel_rfl
theorem c333 : Tryz.prog.cellsOf 333 = 1 := by kernel_rfl
theorem b333 : Tryz.prog.bytesOf 333 = 16 := by kernel_rfl
theorem c334 : Tryz.prog.cellsOf 334 = 6 := by kernel_rfl
theorem b334 : Tryz.prog.bytesOf 334 = 88 := by kernel_rfl
theorem c335 : Tryz.prog.cellsOf 335 = 6 := by kernel_rfl
theorem b335 : Tryz.prog.bytesOf 335 = 88 := by kernel_rfl
theorem c336 : Tryz.prog.cellsOf 336 = 1 := by kernel_rfl
theorem b336 : Tryz.prog.bytesOf 336 = 8 := by kernel_rfl
theorem c337 : Tryz.prog.cellsOf 337 = 1 := by kernel_rfl
theorem b337 : Tryz.prog.bytesOf 337 = 8 := by kernel_rfl
theorem c338 : Tryz.prog.cellsOf 338 = 1 := by kernel_rfl
theorem b338 : Tryz.prog.bytesOf 338 = 8 := by kernel_rfl
theorem c339 : Tryz.prog.cellsOf 339 = 1 := by kernel_rfl
theorem b339 : Tryz.prog.bytesOf 339 = 8 := by kernel_rfl
theorem c340 : Tryz.prog.cellsOf 340 = 1 := by kernel_rfl
theorem b340 : Tryz.prog.bytesOf 340 = 8 := by kernel_rfl
theorem c341 : Tryz.prog.cellsOf 341 = 1 := by kernel_rfl
theorem b341 : Tryz.prog.bytesOf 341 = 8 := by kernel_rfl
theorem c342 : Tryz.prog.cellsOf 342 = 1 := by kernel_rfl
theorem b342 : Tryz.prog.bytesOf 342 = 8 := by kernel_rfl
theorem c343 : Tryz.prog.cellsOf 343 = 1 := by kernel_rfl
theorem b343 : Tryz.prog.bytesOf 343 = 8 := by kernel_rfl
theorem c344 : Tryz.prog.cellsOf 344 = 1 := by kernel_rfl
theorem b344 : Tryz.prog.bytesOf 344 = 8 := by kernel_rfl
theorem c345 : Tryz.prog.cellsOf 345 = 1 := by kernel_rfl
theorem b345 : Tryz.prog.bytesOf 345 = 8 := by kernel_rfl
theorem c346 : Tryz.prog.cellsOf 346 = 2 := by kernel_rfl
theorem b346 : Tryz.prog.bytesOf 346 = 24 := by kernel_rfl
theorem c347 : Tryz.prog.cellsOf 347 = 2 := by kernel_rfl
theorem b347 : Tryz.prog.bytesOf 347 = 24 := by kernel_rfl
theorem c348 : Tryz.prog.cellsOf 348 = 1 := by kernel_rfl
theorem b348 : Tryz.prog.bytesOf 348 = 8 := by kernel_rfl
theorem c349 : Tryz.prog.cellsOf 349 = 1 := by kernel_rfl
theorem b349 : Tryz.prog.bytesOf 349 = 24 := by kernel_rfl
theorem c350 : Tryz.prog.cellsOf 350 = 5 := by kernel_rfl
theorem b350 : Tryz.prog.bytesOf 350 = 72 := by kernel_rfl
theorem c351 : Tryz.prog.cellsOf 351 = 5 := by kernel_rfl
theorem b351 : Tryz.prog.bytesOf 351 = 72 := by kernel_rfl
theorem c354 : Tryz.prog.cellsOf 354 = 1 := by kernel_rfl
theorem b354 : Tryz.prog.bytesOf 354 = 8 := by kernel_rfl
theorem c355 : Tryz.prog.cellsOf 355 = 1 := by kernel_rfl
theorem b355 : Tryz.prog.bytesOf 355 = 8 := by kernel_rfl
theorem c356 : Tryz.prog.cellsOf 356 = 1 := by kernel_rfl
theorem b356 : Tryz.prog.bytesOf 356 = 8 := by kernel_rfl
theorem c357 : Tryz.prog.cellsOf 357 = 1 := by kernel_rfl
theorem b357 : Tryz.prog.bytesOf 357 = 8 := by kernel_rfl
theorem c358 : Tryz.prog.cellsOf 358 = 1 := by kernel_rfl
theorem b358 : Tryz.prog.bytesOf 358 = 8 := by kernel_rfl
theorem c359 : Tryz.prog.cellsOf 359 = 1 := by kernel_rfl
theorem b359 : Tryz.prog.bytesOf 359 = 8 := by kernel_rfl
theorem c360 : Tryz.prog.cellsOf 360 = 1 := by kernel_rfl
theorem b360 : Tryz.prog.bytesOf 360 = 8 := by kernel_rfl
theorem c361 : Tryz.prog.cellsOf 361 = 1 := by kernel_rfl
theorem b361 : Tryz.prog.bytesOf 361 = 0 := by kernel_rfl
theorem c362 : Tryz.prog.cellsOf 362 = 1 := by kernel_rfl
theorem b362 : Tryz.prog.bytesOf 362 = 8 := by kernel_rfl
theorem c363 : Tryz.prog.cellsOf 363 = 1 := by kernel_rfl
theorem b363 : Tryz.prog.bytesOf 363 = 8 := by kernel_rfl
theorem c364 : Tryz.prog.cellsOf 364 = 1 := by kernel_rfl
theorem b364 : Tryz.prog.bytesOf 364 = 8 := by kernel_rfl
theorem c365 : Tryz.prog.cellsOf 365 = 1 := by kernel_rfl
theorem b365 : Tryz.prog.bytesOf 365 = 8 := by kernel_rfl
theorem c366 : Tryz.prog.cellsOf 366 = 1 := by kernel_rfl
theorem b366 : Tryz.prog.bytesOf 366 = 8 := by kernel_rfl
theorem c367 : Tryz.prog.cellsOf 367 = 1 := by kernel_rfl
theorem b367 : Tryz.prog.bytesOf 367 = 8 := by kernel_rfl
theorem c368 : Tryz.prog.cellsOf 368 = 1 := by kernel_rfl
theorem b368 : Tryz.prog.bytesOf 368 = 8 := by kernel_rfl
theorem c369 : Tryz.prog.cellsOf 369 = 1 := by kernel_rfl
theorem b369 : Tryz.prog.bytesOf 369 = 8 := by kernel_rfl
theorem c370 : Tryz.prog.cellsOf 370 = 1 := by kernel_rfl
theorem b370 : Tryz.prog.bytesOf 370 = 8 := by kernel_rfl
theorem c371 : Tryz.prog.cellsOf 371 = 1 := by kernel_rfl
theorem b371 : Tryz.prog.bytesOf 371 = 8 := by kernel_rfl
theorem c372 : Tryz.prog.cellsOf 372 = 1 := by kernel_rfl
theorem b372 : Tryz.prog.bytesOf 372 = 8 := by kernel_rfl
theorem c373 : Tryz.prog.cellsOf 373 = 1 := by kernel_rfl
theorem b373 : Tryz.prog.bytesOf 373 = 8 := by kernel_rfl
theorem c377 : Tryz.prog.cellsOf 377 = 1 := by kernel_rfl
theorem b377 : Tryz.prog.bytesOf 377 = 0 := by kernel_rfl
theorem c378 : Tryz.prog.cellsOf 378 = 1 := by kernel_rfl
theorem b378 : Tryz.prog.bytesOf 378 = 8 := by kernel_rfl
theorem c379 : Tryz.prog.cellsOf 379 = 1 := by kernel_rfl
theorem b379 : Tryz.prog.bytesOf 379 = 8 := by kernel_rfl
theorem c380 : Tryz.prog.cellsOf 380 = 1 := by kernel_rfl
theorem b380 : Tryz.prog.bytesOf 380 = 8 := by kernel_rfl
theorem c381 : Tryz.prog.cellsOf 381 = 1 := by kernel_rfl
theorem b381 : Tryz.prog.bytesOf 381 = 8 := by kernel_rfl
theorem c382 : Tryz.prog.cellsOf 382 = 1 := by kernel_rfl
theorem b382 : Tryz.prog.bytesOf 382 = 8 := by kernel_rfl
theorem c383 : Tryz.prog.cellsOf 383 = 1 := by kernel_rfl
theorem b383 : Tryz.prog.bytesOf 383 = 8 := by kernel_rfl
theorem c384 : Tryz.prog.cellsOf 384 = 1 := by kernel_rfl
theorem b384 : Tryz.prog.bytesOf 384 = 8 := by kernel_rfl
theorem c385 : Tryz.prog.cellsOf 385 = 1 := by kernel_rfl
theorem b385 : Tryz.prog.bytesOf 385 = 8 := by kernel_rfl
theorem c386 : Tryz.prog.cellsOf 386 = 1 := by kernel_rfl
theorem b386 : Tryz.prog.bytesOf 386 = 8 := by kernel_rfl
theorem c387 : Tryz.prog.cellsOf 387 = 1 := by kernel_rfl
theorem b387 : Tryz.prog.bytesOf 387 = 8 := by kernel_rfl
theorem c388 : Tryz.prog.cellsOf 388 = 1 := by kernel_rfl
theorem b388 : Tryz.prog.bytesOf 388 = 8 := by kernel_rfl
theorem c389 : Tryz.prog.cellsOf 389 = 1 := by kernel_rfl
theorem b389 : Tryz.prog.bytesOf 389 = 8 := by kernel_rfl
theorem c390 : Tryz.prog.cellsOf 390 = 1 := by kernel_rfl
theorem b390 : Tryz.prog.bytesOf 390 = 8 := by kernel_rfl
theorem c391 : Tryz.prog.cellsOf 391 = 1 := by kernel_rfl
theorem b391 : Tryz.prog.bytesOf 391 = 8 := by kernel_rfl
theorem c392 : Tryz.prog.cellsOf 392 = 1 := by kernel_rfl
theorem b392 : Tryz.prog.bytesOf 392 = 8 := by kernel_rfl
theorem c395 : Tryz.prog.cellsOf 395 = 1 := by kernel_rfl
theorem b395 : Tryz.prog.bytesOf 395 = 0 := by kernel_rfl
theorem c396 : Tryz.prog.cellsOf 396 = 1 := by kernel_rfl
theorem b396 : Tryz.prog.bytesOf 396 = 8 := by kernel_rfl
theorem c397 : Tryz.prog.cellsOf 397 = 1 := by kernel_rfl
theorem b397 : Tryz.prog.bytesOf 397 = 8 := by kernel_rfl
theorem c398 : Tryz.prog.cellsOf 398 = 1 := by kernel_rfl
theorem b398 : Tryz.prog.bytesOf 398 = 8 := by kernel_rfl
theorem c399 : Tryz.prog.cellsOf 399 = 1 := by kernel_rfl
theorem b399 : Tryz.prog.bytesOf 399 = 8 := by kernel_rfl
theorem c400 : Tryz.prog.cellsOf 400 = 1 := by kernel_rfl
theorem b400 : Tryz.prog.bytesOf 400 = 8 := by kernel_rfl
theorem c401 : Tryz.prog.cellsOf 401 = 1 := by kernel_rfl
theorem b401 : Tryz.prog.bytesOf 401 = 8 := by kernel_rfl
theorem c402 : Tryz.prog.cellsOf 402 = 1 := by kernel_rfl
theorem b402 : Tryz.prog.bytesOf 402 = 8 := by kernel_rfl
theorem c403 : Tryz.prog.cellsOf 403 = 4 := by kernel_rfl
theorem b403 : Tryz.prog.bytesOf 403 = 40 := by kernel_rfl
theorem c404 : Tryz.prog.cellsOf 404 = 4 := by kernel_rfl
theorem b404 : Tryz.prog.bytesOf 404 = 40 := by kernel_rfl
theorem c408 : Tryz.prog.cellsOf 408 = 1 := by kernel_rfl
theorem b408 : Tryz.prog.bytesOf 408 = 8 := by kernel_rfl
theorem c409 : Tryz.prog.cellsOf 409 = 1 := by kernel_rfl
theorem b409 : Tryz.prog.bytesOf 409 = 1 := by kernel_rfl
theorem c410 : Tryz.prog.cellsOf 410 = 1 := by kernel_rfl
theorem b410 : Tryz.prog.bytesOf 410 = 1 := by kernel_rfl
theorem c411 : Tryz.prog.cellsOf 411 = 1 := by kernel_rfl
theorem b411 : Tryz.prog.bytesOf 411 = 8 := by kernel_rfl
theorem c412 : Tryz.prog.cellsOf 412 = 1 := by kernel_rfl
theorem b412 : Tryz.prog.bytesOf 412 = 4 := by kernel_rfl
theorem c413 : Tryz.prog.cellsOf 413 = 1 := by kernel_rfl
theorem b413 : Tryz.prog.bytesOf 413 = 4 := by kernel_rfl
theorem c414 : Tryz.prog.cellsOf 414 = 11 := by kernel_rfl
theorem b414 : Tryz.prog.bytesOf 414 = 48 := by kernel_rfl
theorem c415 : Tryz.prog.cellsOf 415 = 11 := by kernel_rfl
theorem b415 : Tryz.prog.bytesOf 415 = 48 := by kernel_rfl
theorem c416 : Tryz.prog.cellsOf 416 = 1 := by kernel_rfl
theorem b416 : Tryz.prog.bytesOf 416 = 8 := by kernel_rfl
theorem c417 : Tryz.prog.cellsOf 417 = 1 := by kernel_rfl
theorem b417 : Tryz.prog.bytesOf 417 = 24 := by kernel_rfl
theorem c418 : Tryz.prog.cellsOf 418 = 1 := by kernel_rfl
theorem b418 : Tryz.prog.bytesOf 418 = 8 := by kernel_rfl
theorem c419 : Tryz.prog.cellsOf 419 = 1 := by kernel_rfl
theorem b419 : Tryz.prog.bytesOf 419 = 16 := by kernel_rfl
theorem c420 : Tryz.prog.cellsOf 420 = 1 := by kernel_rfl
theorem b420 : Tryz.prog.bytesOf 420 = 16 := by kernel_rfl
theorem c421 : Tryz.prog.cellsOf 421 = 1 := by kernel_rfl
theorem b421 : Tryz.prog.bytesOf 421 = 16 := by kernel_rfl
theorem c422 : Tryz.prog.cellsOf 422 = 1 := by kernel_rfl
theorem b422 : Tryz.prog.bytesOf 422 = 16 := by kernel_rfl
theorem c423 : Tryz.prog.cellsOf 423 = 1 := by kernel_rfl
theorem b423 : Tryz.prog.bytesOf 423 = 8 := by kernel_rfl
theorem c424 : Tryz.prog.cellsOf 424 = 1 := by kernel_rfl
theorem b424 : Tryz.prog.bytesOf 424 = 0 := by kernel_rfl
theorem c425 : Tryz.prog.cellsOf 425 = 1 := by kernel_rfl
theorem b425 : Tryz.prog.bytesOf 425 = 8 := by kernel_rfl
theorem c426 : Tryz.prog.cellsOf 426 = 1 := by kernel_rfl
theorem b426 : Tryz.prog.bytesOf 426 = 0 := by kernel_rfl
theorem c427 : Tryz.prog.cellsOf 427 = 1 := by kernel_rfl
theorem b427 : Tryz.prog.bytesOf 427 = 16 := by kernel_rfl
theorem c428 : Tryz.prog.cellsOf 428 = 1 := by kernel_rfl
theorem b428 : Tryz.prog.bytesOf 428 = 16 := by kernel_rfl
theorem c429 : Tryz.prog.cellsOf 429 = 1 := by kernel_rfl
theorem b429 : Tryz.prog.bytesOf 429 = 8 := by kernel_rfl
theorem z1 : zeroT Tryz.prog 1 = some [.c .nilFunc] := by kernel_rfl
theorem z2 : zeroT Tryz.prog 2 = some [.i .i64 (0)] := by kernel_rfl
theorem z3 : zeroT Tryz.prog 3 = some [.i .i64 (0)] := by kernel_rfl
theorem z4 : zeroT Tryz.prog 4 = some [.b false] := by kernel_rfl
theorem z5 : zeroT Tryz.prog 5 = some [.i .u8 (0)] := by kernel_rfl
theorem z6 : zeroT Tryz.prog 6 = some [.i .u8 (0)] := by kernel_rfl
theorem z7 : zeroT Tryz.prog 7 = some [.i .i64 (0), .i .i64 (0), .b false, .i .u8 (0)] := by kernel_rfl
theorem f7 : fieldsT Tryz.prog 7 = some [(0, 1, 2), (1, 1, 3), (2, 1, 4), (3, 1, 6)] := by kernel_rfl
theorem z8 : zeroT Tryz.prog 8 = some [.i .i64 (0), .i .i64 (0), .b false, .i .u8 (0)] := by kernel_rfl
theorem f8 : fieldsT Tryz.prog 8 = some [(0, 1, 2), (1, 1, 3), (2, 1, 4), (3, 1, 6)] := by kernel_rfl
theorem z9 : zeroT Tryz.prog 9 = some [.s []] := by kernel_rfl
theorem z10 : zeroT Tryz.prog 10 = some [.s []] := by kernel_rfl
theorem z11 : zeroT Tryz.prog 11 = some [.s []] := by kernel_rfl
theorem z12 : zeroT Tryz.prog 12 = some [.i .u64 (0)] := by kernel_rfl
theorem z13 : zeroT Tryz.prog 13 = some [.s [], .i .u64 (0)] := by kernel_rfl
theorem f13 : fieldsT Tryz.prog 13 = some [(0, 1, 9), (1, 1, 12)] := by kernel_rfl
theorem z14 : zeroT Tryz.prog 14 = some [.s [], .i .u64 (0)] := by kernel_rfl
theorem f14 : fieldsT Tryz.prog 14 = some [(0, 1, 9), (1, 1, 12)] := by kernel_rfl
theorem z15 : zeroT Tryz.prog 15 = some [.c (.pointer none)] := by kernel_rfl
theorem z16 : zeroT Tryz.prog 16 = some [.c (.pointer none)] := by kernel_rfl
theorem z17 : zeroT Tryz.prog 17 = some [.c (.pointer none)] := by kernel_rfl
theorem z18 : zeroT Tryz.prog 18 = some [.c (.pointer none)] := by kernel_rfl
theorem f18 : fieldsT Tryz.prog 18 = some [(0, 1, 17)] := by kernel_rfl
theorem z19 : zeroT Tryz.prog 19 = some [.c (.pointer none)] := by kernel_rfl
theorem f19 : fieldsT Tryz.prog 19 = some [(0, 1, 17)] := by kernel_rfl
theorem z20 : zeroT Tryz.prog 20 = some [.c .nilIface] := by kernel_rfl
theorem z21 : zeroT Tryz.prog 21 = some [.i .i32 (0)] := by kernel_rfl
theorem z22 : zeroT Tryz.prog 22 = some [.s [], .s []] := by kernel_rfl
theorem f22 : fieldsT Tryz.prog 22 = some [(0, 1, 9), (1, 1, 9)] := by kernel_rfl
theorem z23 : zeroT Tryz.prog 23 = some [.s [], .s []] := by kernel_rfl
theorem f23 : fieldsT Tryz.prog 23 = some [(0, 1, 9), (1, 1, 9)] := by kernel_rfl
theorem z24 : zeroT Tryz.prog 24 = some [.c (.slice none 0 0)] := by kernel_rfl
theorem z25 : zeroT Tryz.prog 25 = some [.s [], .s [], .s [], .s [], .b false, .b false, .i .i64 (0), .c (.slice none 0 0)] := by kernel_rfl
theorem f25 : fieldsT Tryz.prog 25 = some [(0, 1, 9), (1, 1, 9), (2, 1, 9), (3, 1, 9), (4, 1, 4), (5, 1, 4), (6, 1, 3), (7, 1, 24)] := by kernel_rfl
theorem z26 : zeroT Tryz.prog 26 = some [.s [], .s [], .s [], .s [], .b false, .b false, .i .i64 (0), .c (.slice none 0 0)] := by kernel_rfl
theorem f26 : fieldsT Tryz.prog 26 = some [(0, 1, 9), (1, 1, 9), (2, 1, 9), (3, 1, 9), (4, 1, 4), (5, 1, 4), (6, 1, 3), (7, 1, 24)] := by kernel_rfl
theorem z27 : zeroT Tryz.prog 27 = some [.c .nilFunc] := by kernel_rfl
theorem z28 : zeroT Tryz.prog 28 = some [.c .nilFunc] := by kernel_rfl
theorem z29 : zeroT Tryz.prog 29 = some [.c .nilFunc] := by kernel_rfl
theorem z30 : zeroT Tryz.prog 30 = some [.c (.slice none 0 0)] := by kernel_rfl
theorem z31 : zeroT Tryz.prog 31 = some [.c (.slice none 0 0)] := by kernel_rfl
theorem z32 : zeroT Tryz.prog 32 = some [.c (.slice none 0 0)] := by kernel_rfl
theorem z33 : zeroT Tryz.prog 33 = some [.c (.slice none 0 0), .c (.slice none 0 0), .s [], .c (.slice none 0 0), .b false] := by kernel_rfl
theorem f33 : fieldsT Tryz.prog 33 = some [(0, 1, 30), (1, 1, 31), (2, 1, 9), (3, 1, 32), (4, 1, 4)] := by kernel_rfl
theorem z34 : zeroT Tryz.prog 34 = some [.c (.slice none 0 0), .c (.slice none 0 0), .s [], .c (.slice none 0 0), .b false] := by kernel_rfl
theorem f34 : fieldsT Tryz.prog 34 = some [(0, 1, 30), (1, 1, 31), (2, 1, 9), (3, 1, 32), (4, 1, 4)] := by kernel_rfl
theorem z35 : zeroT Tryz.prog 35 = some [.c (.slice none 0 0)] := by kernel_rfl
theorem z36 : zeroT Tryz.prog 36 = some [.i .i64 (0), .s [], .s [], .c (.slice none 0 0)] := by kernel_rfl
theorem f36 : fieldsT Tryz.prog 36 = some [(0, 1, 3), (1, 2, 23), (3, 1, 35)] := by kernel_rfl
theorem z37 : zeroT Tryz.prog 37 = some [.i .i64 (0), .s [], .s [], .c (.slice none 0 0)] := by kernel_rfl
theorem f37 : fieldsT Tryz.prog 37 = some [(0, 1, 3), (1, 2, 23), (3, 1, 35)] := by kernel_rfl
theorem z38 : zeroT Tryz.prog 38 = some [.b false, .i .i64 (0), .s [], .s [], .c (.slice none 0 0)] := by kernel_rfl
theorem f38 : fieldsT Tryz.prog 38 = some [(0, 1, 4), (1, 4, 37)] := by kernel_rfl
theorem z39 : zeroT Tryz.prog 39 = some [.b false, .i .i64 (0), .s [], .s [], .c (.slice none 0 0)] := by kernel_rfl
theorem f39 : fieldsT Tryz.prog 39 = some [(0, 1, 4), (1, 4, 37)] := by kernel_rfl
theorem z40 : zeroT Tryz.prog 40 = some [.b false, .i .i64 (0), .i .i64 (0), .b false, .b false] := by kernel_rfl
theorem f40 : fieldsT Tryz.prog 40 = some [(0, 1, 4), (1, 1, 3), (2, 1, 3), (3, 1, 4), (4, 1, 4)] := by kernel_rfl
theorem z41 : zeroT Tryz.prog 41 = some [.b false, .i .i64 (0), .i .i64 (0), .b false, .b false] := by kernel_rfl
theorem f41 : fieldsT Tryz.prog 41 = some [(0, 1, 4), (1, 1, 3), (2, 1, 3), (3, 1, 4), (4, 1, 4)] := by kernel_rfl
theorem z42 : zeroT Tryz.prog 42 = some [.c .nilFunc] := by kernel_rfl
theorem z43 : zeroT Tryz.prog 43 = some [.c .nilFunc] := by kernel_rfl
theorem z44 : zeroT Tryz.prog 44 = some [.c .nilFunc] := by kernel_rfl
theorem z45 : zeroT Tryz.prog 45 = some [.s [], .s []] := by kernel_rfl
theorem f45 : fieldsT Tryz.prog 45 = some [(0, 1, 9), (1, 1, 9)] := by kernel_rfl
theorem z46 : zeroT Tryz.prog 46 = some [.s [], .s []] := by kernel_rfl
theorem f46 : fieldsT Tryz.prog 46 = some [(0, 1, 9), (1, 1, 9)] := by kernel_rfl
theorem z47 : zeroT Tryz.prog 47 = some [.c (.pointer none)] := by kernel_rfl
theorem z48 : zeroT Tryz.prog 48 = some [.i .i64 (0)] := by kernel_rfl
theorem z49 : zeroT Tryz.prog 49 = some [.i .i64 (0), .i .i64 (0)] := by kernel_rfl
theorem f49 : fieldsT Tryz.prog 49 = some [(0, 1, 48), (1, 1, 3)] := by kernel_rfl
theorem z50 : zeroT Tryz.prog 50 = some [.i .i64 (0), .i .i64 (0)] := by kernel_rfl
theorem f50 : fieldsT Tryz.prog 50 = some [(0, 1, 48), (1, 1, 3)] := by kernel_rfl
theorem z52 : zeroT Tryz.prog 52 = some [.c .nilFunc] := by kernel_rfl
theorem z53 : zeroT Tryz.prog 53 = some [.c .nilFunc] := by kernel_rfl
theorem z54 : zeroT Tryz.prog 54 = some [.s [], .s [], .s [], .s [], .i .i64 (0), .s [], .b false, .s [], .b false, .s []] := by kernel_rfl
theorem f54 : fieldsT Tryz.prog 54 = some [(0, 1, 9), (1, 1, 9), (2, 1, 9), (3, 1, 9), (4, 1, 3), (5, 1, 9), (6, 1, 4), (7, 1, 9), (8, 1, 4), (9, 1, 9)] := by kernel_rfl
theorem z55 : zeroT Tryz.prog 55 = some [.s [], .s [], .s [], .s [], .i .i64 (0), .s [], .b false, .s [], .b false, .s []] := by kernel_rfl
theorem f55 : fieldsT Tryz.prog 55 = some [(0, 1, 9), (1, 1, 9), (2, 1, 9), (3, 1, 9), (4, 1, 3), (5, 1, 9), (6, 1, 4), (7, 1, 9), (8, 1, 4), (9, 1, 9)] := by kernel_rfl
theorem z56 : zeroT Tryz.prog 56 = some [.s [], .s [], .i .i64 (0)] := by kernel_rfl
theorem f56 : fieldsT Tryz.prog 56 = some [(0, 1, 9), (1, 1, 9), (2, 1, 3)] := by kernel_rfl
theorem z57 : zeroT Tryz.prog 57 = some [.s [], .s [], .i .i64 (0)] := by kernel_rfl
theorem f57 : fieldsT Tryz.prog 57 = some [(0, 1, 9), (1, 1, 9), (2, 1, 3)] := by kernel_rfl
theorem z58 : zeroT Tryz.prog 58 = some [.s [], .s [], .s [], .s [], .b false, .b false, .i .i64 (0), .c (.slice none 0 0), .s [], .s [], .s [], .s [], .i .i64 (0), .s [], .b false, .s [], .b false, .s [], .b false, .s [], .s [], .i .i64 (0), .b false] := by kernel_rfl
theorem f58 : fieldsT Tryz.prog 58 = some [(0, 8, 26), (8, 10, 55), (18, 1, 4), (19, 3, 57), (22, 1, 4)] := by kernel_rfl
theorem z59 : zeroT Tryz.prog 59 = some [.s [], .s [], .s [], .s [], .b false, .b false, .i .i64 (0), .c (.slice none 0 0), .s [], .s [], .s [], .s [], .i .i64 (0), .s [], .b false, .s [], .b false, .s [], .b false, .s [], .s [], .i .i64 (0), .b false] := by kernel_rfl
theorem f59 : fieldsT Tryz.prog 59 = some [(0, 8, 26), (8, 10, 55), (18, 1, 4), (19, 3, 57), (22, 1, 4)] := by kernel_rfl
theorem z60 : zeroT Tryz.prog 60 = some [.c .nilFunc] := by kernel_rfl
theorem z61 : zeroT Tryz.prog 61 = some [.c .nilFunc] := by kernel_rfl
theorem z63 : zeroT Tryz.prog 63 = some [.c .nilFunc] := by kernel_rfl
theorem z65 : zeroT Tryz.prog 65 = some [.c .nilFunc] := by kernel_rfl
theorem z66 : zeroT Tryz.prog 66 = some [.c .nilFunc] := by kernel_rfl
theorem z67 : zeroT Tryz.prog 67 = some [.c .nilFunc] := by kernel_rfl
theorem z68 : zeroT Tryz.prog 68 = some [.c .nilFunc] := by kernel_rfl
theorem z69 : zeroT Tryz.prog 69 = some [.b false, .i .i64 (0)] := by kernel_rfl
theorem f69 : fieldsT Tryz.prog 69 = some [(0, 1, 4), (1, 1, 3)] := by kernel_rfl
theorem z70 : zeroT Tryz.prog 70 = some [.b false, .i .i64 (0)] := by kernel_rfl
theorem f70 : fieldsT Tryz.prog 70 = some [(0, 1, 4), (1, 1, 3)] := by kernel_rfl
theorem z71 : zeroT Tryz.prog 71 = some [.c .nilFunc] := by kernel_rfl
theorem z72 : zeroT Tryz.prog 72 = some [.c .nilFunc] := by kernel_rfl
theorem z73 : zeroT Tryz.prog 73 = some [.c .nilFunc] := by kernel_rfl
theorem z74 : zeroT Tryz.prog 74 = some [.c .nilFunc] := by kernel_rfl
theorem z75 : zeroT Tryz.prog 75 = some [.c .nilFunc] := by kernel_rfl
theorem z76 : zeroT Tryz.prog 76 = some [.c .nilFunc] := by kernel_rfl
theorem z77 : zeroT Tryz.prog 77 = some [.s [], .c (.slice none 0 0), .c (.slice none 0 0), .b false] := by kernel_rfl
theorem f77 : fieldsT Tryz.prog 77 = some [(0, 1, 9), (1, 1, 30), (2, 1, 30), (3, 1, 4)] := by kernel_rfl
theorem z78 : zeroT Tryz.prog 78 = some [.s [], .c (.slice none 0 0), .c (.slice none 0 0), .b false] := by kernel_rfl
theorem f78 : fieldsT Tryz.prog 78 = some [(0, 1, 9), (1, 1, 30), (2, 1, 30), (3, 1, 4)] := by kernel_rfl
theorem z79 : zeroT Tryz.prog 79 = some [.c (.slice none 0 0)] := by kernel_rfl
theorem z80 : zeroT Tryz.prog 80 = some [.c .nilFunc] := by kernel_rfl
theorem z81 : zeroT Tryz.prog 81 = some [.c .nilFunc] := by kernel_rfl
theorem z82 : zeroT Tryz.prog 82 = some [.c .nilFunc] := by kernel_rfl
theorem z83 : zeroT Tryz.prog 83 = some [.c .nilFunc] := by kernel_rfl
theorem z84 : zeroT Tryz.prog 84 = some [.c .nilFunc] := by kernel_rfl
theorem z85 : zeroT Tryz.prog 85 = some [.c .nilFunc] := by kernel_rfl
theorem z87 : zeroT Tryz.prog 87 = some [.c .nilFunc] := by kernel_rfl
theorem z88 : zeroT Tryz.prog 88 = some [.c .nilFunc] := by kernel_rfl
theorem z89 : zeroT Tryz.prog 89 = some [.c .nilFunc] := by kernel_rfl
theorem z90 : zeroT Tryz.prog 90 = some [.c (.slice none 0 0)] := by kernel_rfl
theorem z91 : zeroT Tryz.prog 91 = some [.b false, .i .i64 (0)] := by kernel_rfl
theorem f91 : fieldsT Tryz.prog 91 = some [(0, 1, 4), (1, 1, 3)] := by kernel_rfl
theorem z92 : zeroT Tryz.prog 92 = some [.c .nilFunc] := by kernel_rfl
theorem z94 : zeroT Tryz.prog 94 = some [.c .nilFunc] := by kernel_rfl
theorem z95 : zeroT Tryz.prog 95 = some [.c (.slice none 0 0)] := by kernel_rfl
theorem z96 : zeroT Tryz.prog 96 = some [.c (.slice none 0 0)] := by kernel_rfl
theorem z97 : zeroT Tryz.prog 97 = some [.c (.slice none 0 0), .c (.slice none 0 0), .c (.slice none 0 0), .i .i64 (0)] := by kernel_rfl
theorem f97 : fieldsT Tryz.prog 97 = some [(0, 1, 79), (1, 1, 95), (2, 1, 96), (3, 1, 3)] := by kernel_rfl
theorem z98 : zeroT Tryz.prog 98 = some [.c (.slice none 0 0), .c (.slice none 0 0), .c (.slice none 0 0), .i .i64 (0)] := by kernel_rfl
theorem f98 : fieldsT Tryz.prog 98 = some [(0, 1, 79), (1, 1, 95), (2, 1, 96), (3, 1, 3)] := by kernel_rfl
theorem z100 : zeroT Tryz.prog 100 = some [.c .nilFunc] := by kernel_rfl
theorem z101 : zeroT Tryz.prog 101 = some [.c (.slice none 0 0), .c (.slice none 0 0), .s [], .c (.slice none 0 0), .b false] := by kernel_rfl
theorem f101 : fieldsT Tryz.prog 101 = some [(0, 5, 34)] := by kernel_rfl
theorem z102 : zeroT Tryz.prog 102 = some [.c (.slice none 0 0), .c (.slice none 0 0), .s [], .c (.slice none 0 0), .b false] := by kernel_rfl
theorem f102 : fieldsT Tryz.prog 102 = some [(0, 5, 34)] := by kernel_rfl
theorem z103 : zeroT Tryz.prog 103 = some [.c (.slice none 0 0), .c (.slice none 0 0), .c (.slice none 0 0), .i .i64 (0)] := by kernel_rfl
theorem f103 : fieldsT Tryz.prog 103 = some [(0, 4, 98)] := by kernel_rfl
theorem z104 : zeroT Tryz.prog 104 = some [.c (.slice none 0 0), .c (.slice none 0 0), .c (.slice none 0 0), .i .i64 (0)] := by kernel_rfl
theorem f104 : fieldsT Tryz.prog 104 = some [(0, 4, 98)] := by kernel_rfl
theorem z105 : zeroT Tryz.prog 105 = some [.c (.slice none 0 0), .c (.slice none 0 0), .s [], .c (.slice none 0 0), .b false, .c (.slice none 0 0), .c (.slice none 0 0), .c (.slice none 0 0), .i .i64 (0)] := by kernel_rfl
theorem f105 : fieldsT Tryz.prog 105 = some [(0, 5, 102), (5, 4, 104)] := by kernel_rfl
theorem z106 : zeroT Tryz.prog 106 = some [.c (.slice none 0 0), .c (.slice none 0 0), .s [], .c (.slice none 0 0), .b false, .c (.slice none 0 0), .c (.slice none 0 0), .c (.slice none 0 0), .i .i64 (0)] := by kernel_rfl
theorem f106 : fieldsT Tryz.prog 106 = some [(0, 5, 102), (5, 4, 104)] := by kernel_rfl
theorem z108 : zeroT Tryz.prog 108 = some [.c .nilFunc] := by kernel_rfl
theorem z109 : zeroT Tryz.prog 109 = some [.c (.pointer none)] := by kernel_rfl
theorem z110 : zeroT Tryz.prog 110 = some [.c .nilFunc] := by kernel_rfl
theorem z111 : zeroT Tryz.prog 111 = some [.c .nilFunc] := by kernel_rfl
theorem z112 : zeroT Tryz.prog 112 = some [.c .nilFunc] := by kernel_rfl
theorem z113 : zeroT Tryz.prog 113 = some [.c .nilFunc] := by kernel_rfl
theorem z114 : zeroT Tryz.prog 114 = some [.c .nilFunc] := by kernel_rfl
theorem z116 : zeroT Tryz.prog 116 = some [.c .nilFunc] := by kernel_rfl
theorem z117 : zeroT Tryz.prog 117 = some [.c .nilFunc] := by kernel_rfl
theorem z118 : zeroT Tryz.prog 118 = some [.c .nilFunc] := by kernel_rfl
theorem z119 : zeroT Tryz.prog 119 = some [.c (.pointer none)] := by kernel_rfl
theorem z120 : zeroT Tryz.prog 120 = some [.c .nilFunc] := by kernel_rfl
theorem z121 : zeroT Tryz.prog 121 = some [.c .nilFunc] := by kernel_rfl
theorem z122 : zeroT Tryz.prog 122 = some [.c .nilFunc] := by kernel_rfl
theorem z123 : zeroT Tryz.prog 123 = some [.c .nilFunc] := by kernel_rfl
theorem z124 : zeroT Tryz.prog 124 = some [.c (.map none)] := by kernel_rfl
theorem z125 : zeroT Tryz.prog 125 = some [.c .nilFunc] := by kernel_rfl
theorem z127 : zeroT Tryz.prog 127 = some [.c .nilFunc] := by kernel_rfl
theorem z128 : zeroT Tryz.prog 128 = some [.c (.pointer none)] := by kernel_rfl
theorem z129 : zeroT Tryz.prog 129 = some [.c .nilFunc] := by kernel_rfl
theorem z131 : zeroT Tryz.prog 131 = some [.c .nilFunc] := by kernel_rfl
theorem z132 : zeroT Tryz.prog 132 = some [.c .nilFunc] := by kernel_rfl
theorem z133 : zeroT Tryz.prog 133 = some [.i .u32 (0)] := by kernel_rfl
theorem z135 : zeroT Tryz.prog 135 = some [.c .nilFunc] := by kernel_rfl
theorem z136 : zeroT Tryz.prog 136 = some [.c .nilFunc] := by kernel_rfl
theorem z137 : zeroT Tryz.prog 137 = some [.c .nilFunc] := by kernel_rfl
theorem z138 : zeroT Tryz.prog 138 = some [.c .nilFunc] := by kernel_rfl
theorem z139 : zeroT Tryz.prog 139 = some [.c .nilFunc] := by kernel_rfl
theorem z140 : zeroT Tryz.prog 140 = some [.c .nilFunc] := by kernel_rfl
theorem z141 : zeroT Tryz.prog 141 = some [.c (.slice none 0 0)] := by kernel_rfl
theorem z143 : zeroT Tryz.prog 143 = some [.c .nilFunc] := by kernel_rfl
theorem z145 : zeroT Tryz.prog 145 = some [.c (.pointer none)] := by kernel_rfl
theorem z146 : zeroT Tryz.prog 146 = some [.c (.slice none 0 0), .i .i64 (0), .i .i64 (0)] := by kernel_rfl
theorem f146 : fieldsT Tryz.prog 146 = some [(0, 1, 141), (1, 1, 3), (2, 1, 3)] := by kernel_rfl
theorem z147 : zeroT Tryz.prog 147 = some [.c (.slice none 0 0), .i .i64 (0), .i .i64 (0)] := by kernel_rfl
theorem f147 : fieldsT Tryz.prog 147 = some [(0, 1, 141), (1, 1, 3), (2, 1, 3)] := by kernel_rfl
theorem z148 : zeroT Tryz.prog 148 = some [.c (.slice none 0 0), .i .i64 (0), .i .i64 (0), .c (.slice none 0 0), .c (.slice none 0 0), .s [], .c (.slice none 0 0), .b false, .i .i64 (0), .c (.map none), .i .i64 (0)] := by kernel_rfl
theorem f148 : fieldsT Tryz.prog 148 = some [(0, 3, 147), (3, 5, 34), (8, 1, 3), (9, 1, 124), (10, 1, 3)] := by kernel_rfl
theorem z149 : zeroT Tryz.prog 149 = some [.c (.slice none 0 0), .i .i64 (0), .i .i64 (0), .c (.slice none 0 0), .c (.slice none 0 0), .s [], .c (.slice none 0 0), .b false, .i .i64 (0), .c (.map none), .i .i64 (0)] := by kernel_rfl
theorem f149 : fieldsT Tryz.prog 149 = some [(0, 3, 147), (3, 5, 34), (8, 1, 3), (9, 1, 124), (10, 1, 3)] := by kernel_rfl
theorem z150 : zeroT Tryz.prog 150 = some [.c .nilFunc] := by kernel_rfl
theorem z151 : zeroT Tryz.prog 151 = some [.c (.pointer none)] := by kernel_rfl
theorem z152 : zeroT Tryz.prog 152 = some [.c (.map none)] := by kernel_rfl
theorem z153 : zeroT Tryz.prog 153 = some [.c (.slice none 0 0), .c (.map none)] := by kernel_rfl
theorem f153 : fieldsT Tryz.prog 153 = some [(0, 1, 96), (1, 1, 152)] := by kernel_rfl
theorem z154 : zeroT Tryz.prog 154 = some [.c (.slice none 0 0), .c (.map none)] := by kernel_rfl
theorem f154 : fieldsT Tryz.prog 154 = some [(0, 1, 96), (1, 1, 152)] := by kernel_rfl
theorem z155 : zeroT Tryz.prog 155 = some [.c (.map none)] := by kernel_rfl
theorem z156 : zeroT Tryz.prog 156 = some [.c (.slice none 0 0), .c (.map none), .c (.map none), .b false] := by kernel_rfl
theorem f156 : fieldsT Tryz.prog 156 = some [(0, 2, 154), (2, 1, 155), (3, 1, 4)] := by kernel_rfl
theorem z157 : zeroT Tryz.prog 157 = some [.c (.slice none 0 0), .c (.map none), .c (.map none), .b false] := by kernel_rfl
theorem f157 : fieldsT Tryz.prog 157 = some [(0, 2, 154), (2, 1, 155), (3, 1, 4)] := by kernel_rfl
theorem z158 : zeroT Tryz.prog 158 = some [.c (.map none)] := by kernel_rfl
theorem z159 : zeroT Tryz.prog 159 = some [.c .nilFunc] := by kernel_rfl
theorem z160 : zeroT Tryz.prog 160 = some [.i .i64 (0), .i .i64 (0), .i .i64 (0)] := by kernel_rfl
theorem f160 : fieldsT Tryz.prog 160 = some [(0, 1, 3), (1, 1, 3), (2, 1, 3)] := by kernel_rfl
theorem z161 : zeroT Tryz.prog 161 = some [.i .i64 (0), .i .i64 (0), .i .i64 (0)] := by kernel_rfl
theorem f161 : fieldsT Tryz.prog 161 = some [(0, 1, 3), (1, 1, 3), (2, 1, 3)] := by kernel_rfl
theorem z163 : zeroT Tryz.prog 163 = some [.c .nilFunc] := by kernel_rfl
theorem z164 : zeroT Tryz.prog 164 = some [.c .nilFunc] := by kernel_rfl
theorem z165 : zeroT Tryz.prog 165 = some [.c .nilFunc] := by kernel_rfl
theorem z166 : zeroT Tryz.prog 166 = some [.c .nilFunc] := by kernel_rfl
theorem z167 : zeroT Tryz.prog 167 = some [.c .nilFunc] := by kernel_rfl
theorem z168 : zeroT Tryz.prog 168 = some [.c (.pointer none)] := by kernel_rfl
theorem z169 : zeroT Tryz.prog 169 = some [.c .nilFunc] := by kernel_rfl
theorem z170 : zeroT Tryz.prog 170 = some [.c (.pointer none)] := by kernel_rfl
theorem z171 : zeroT Tryz.prog 171 = some [.s []] := by kernel_rfl
theorem f171 : fieldsT Tryz.prog 171 = some [(0, 1, 9)] := by kernel_rfl
theorem z172 : zeroT Tryz.prog 172 = some [.s []] := by kernel_rfl
theorem f172 : fieldsT Tryz.prog 172 = some [(0, 1, 9)] := by kernel_rfl
theorem z173 : zeroT Tryz.prog 173 = some [.s [], .s [], .s [], .s [], .s [], .i .i64 (0), .s [], .b false, .s [], .b false, .s []] := by kernel_rfl
theorem f173 : fieldsT Tryz.prog 173 = some [(0, 1, 172), (1, 10, 55)] := by kernel_rfl
theorem z174 : zeroT Tryz.prog 174 = some [.s [], .s [], .s [], .s [], .s [], .i .i64 (0), .s [], .b false, .s [], .b false, .s []] := by kernel_rfl
theorem f174 : fieldsT Tryz.prog 174 = some [(0, 1, 172), (1, 10, 55)] := by kernel_rfl
theorem z175 : zeroT Tryz.prog 175 = some [.c .nilFunc] := by kernel_rfl
theorem z176 : zeroT Tryz.prog 176 = some [.i .i64 (0)] := by kernel_rfl
theorem z177 : zeroT Tryz.prog 177 = some [.c .nilFunc] := by kernel_rfl
theorem z178 : zeroT Tryz.prog 178 = some [.c .nilFunc] := by kernel_rfl
theorem z179 : zeroT Tryz.prog 179 = some [.c (.slice none 0 0)] := by kernel_rfl
theorem z180 : zeroT Tryz.prog 180 = some [.c .nilFunc] := by kernel_rfl
theorem z181 : zeroT Tryz.prog 181 = some [.c .nilFunc] := by kernel_rfl
theorem z183 : zeroT Tryz.prog 183 = some [.c .nilFunc] := by kernel_rfl
theorem z184 : zeroT Tryz.prog 184 = some [.c .nilFunc] := by kernel_rfl
theorem z185 : zeroT Tryz.prog 185 = some [.c .nilFunc] := by kernel_rfl
theorem z186 : zeroT Tryz.prog 186 = some [.i .u64 (0)] := by kernel_rfl
theorem z187 : zeroT Tryz.prog 187 = some [.c .nilFunc] := by kernel_rfl
theorem z188 : zeroT Tryz.prog 188 = some [.c .nilFunc] := by kernel_rfl
theorem z190 : zeroT Tryz.prog 190 = some [.c .nilFunc] := by kernel_rfl
theorem z191 : zeroT Tryz.prog 191 = some [.c .nilFunc] := by kernel_rfl
theorem z192 : zeroT Tryz.prog 192 = some [.c .nilFunc] := by kernel_rfl
theorem z193 : zeroT Tryz.prog 193 = some [.c (.slice none 0 0)] := by kernel_rfl
theorem z194 : zeroT Tryz.prog 194 = some [.c .nilFunc] := by kernel_rfl
theorem z195 : zeroT Tryz.prog 195 = some [.s [], .c (.slice none 0 0)] := by kernel_rfl
theorem f195 : fieldsT Tryz.prog 195 = some [(0, 1, 9), (1, 1, 30)] := by kernel_rfl
theorem z196 : zeroT Tryz.prog 196 = some [.s [], .c (.slice none 0 0)] := by kernel_rfl
theorem f196 : fieldsT Tryz.prog 196 = some [(0, 1, 9), (1, 1, 30)] := by kernel_rfl
theorem z198 : zeroT Tryz.prog 198 = some [.c .nilFunc] := by kernel_rfl
theorem z199 : zeroT Tryz.prog 199 = some [.c (.slice none 0 0)] := by kernel_rfl
theorem z200 : zeroT Tryz.prog 200 = some [.c .nilFunc] := by kernel_rfl
theorem z201 : zeroT Tryz.prog 201 = some [.c .nilFunc] := by kernel_rfl
theorem z202 : zeroT Tryz.prog 202 = some [.c .nilFunc] := by kernel_rfl
theorem z203 : zeroT Tryz.prog 203 = some [.c .nilFunc] := by kernel_rfl
theorem z204 : zeroT Tryz.prog 204 = some [.c .nilFunc] := by kernel_rfl
theorem z205 : zeroT Tryz.prog 205 = some [.c (.pointer none)] := by kernel_rfl
theorem z206 : zeroT Tryz.prog 206 = some [.s [], .i .i64 (0)] := by kernel_rfl
theorem f206 : fieldsT Tryz.prog 206 = some [(0, 1, 9), (1, 1, 3)] := by kernel_rfl
theorem z207 : zeroT Tryz.prog 207 = some [.s [], .i .i64 (0)] := by kernel_rfl
theorem f207 : fieldsT Tryz.prog 207 = some [(0, 1, 9), (1, 1, 3)] := by kernel_rfl
theorem z208 : zeroT Tryz.prog 208 = some [.s [], .i .i64 (0), .c (.slice none 0 0)] := by kernel_rfl
theorem f208 : fieldsT Tryz.prog 208 = some [(0, 2, 207), (2, 1, 141)] := by kernel_rfl
theorem z209 : zeroT Tryz.prog 209 = some [.s [], .i .i64 (0), .c (.slice none 0 0)] := by kernel_rfl
theorem f209 : fieldsT Tryz.prog 209 = some [(0, 2, 207), (2, 1, 141)] := by kernel_rfl
theorem z210 : zeroT Tryz.prog 210 = some [.c .nilFunc] := by kernel_rfl
theorem z211 : zeroT Tryz.prog 211 = some [.c .nilFunc] := by kernel_rfl
theorem z212 : zeroT Tryz.prog 212 = some [.i .i64 (0), .i .i64 (0), .s []] := by kernel_rfl
theorem f212 : fieldsT Tryz.prog 212 = some [(0, 1, 3), (1, 1, 3), (2, 1, 9)] := by kernel_rfl
theorem z213 : zeroT Tryz.prog 213 = some [.i .i64 (0), .i .i64 (0), .s []] := by kernel_rfl
theorem f213 : fieldsT Tryz.prog 213 = some [(0, 1, 3), (1, 1, 3), (2, 1, 9)] := by kernel_rfl
theorem z214 : zeroT Tryz.prog 214 = some [.c .nilFunc] := by kernel_rfl
theorem z215 : zeroT Tryz.prog 215 = some [.c .nilFunc] := by kernel_rfl
theorem z216 : zeroT Tryz.prog 216 = some [.c .nilFunc] := by kernel_rfl
theorem z217 : zeroT Tryz.prog 217 = some [.c .nilFunc] := by kernel_rfl
theorem z218 : zeroT Tryz.prog 218 = some [.c .nilFunc] := by kernel_rfl
theorem z219 : zeroT Tryz.prog 219 = some [.c .nilFunc] := by kernel_rfl
theorem z220 : zeroT Tryz.prog 220 = some [.c .nilFunc] := by kernel_rfl
theorem z221 : zeroT Tryz.prog 221 = some [.c .nilFunc] := by kernel_rfl
theorem z222 : zeroT Tryz.prog 222 = some [.c .nilFunc] := by kernel_rfl
theorem z223 : zeroT Tryz.prog 223 = some [.c (.map none)] := by kernel_rfl
theorem z227 : zeroT Tryz.prog 227 = some [.i .u32 (0)] := by kernel_rfl
theorem z228 : zeroT Tryz.prog 228 = some [.i .u32 (0)] := by kernel_rfl
theorem z229 : zeroT Tryz.prog 229 = some [.i .i32 (0), .i .u32 (0)] := by kernel_rfl
theorem f229 : fieldsT Tryz.prog 229 = some [(0, 1, 21), (1, 1, 133)] := by kernel_rfl
theorem z230 : zeroT Tryz.prog 230 = some [.i .i32 (0), .i .u32 (0)] := by kernel_rfl
theorem f230 : fieldsT Tryz.prog 230 = some [(0, 1, 21), (1, 1, 133)] := by kernel_rfl
theorem z231 : zeroT Tryz.prog 231 = some [.i .i32 (0), .i .u32 (0)] := by kernel_rfl
theorem z232 : zeroT Tryz.prog 232 = some [.i .i32 (0), .i .u32 (0)] := by kernel_rfl
theorem z233 : zeroT Tryz.prog 233 = some [.i .u32 (0), .i .i32 (0), .i .u32 (0)] := by kernel_rfl
theorem z234 : zeroT Tryz.prog 234 = some [.i .u32 (0), .i .i32 (0), .i .u32 (0)] := by kernel_rfl
theorem z235 : zeroT Tryz.prog 235 = some [.c .nilIface] := by kernel_rfl
theorem z236 : zeroT Tryz.prog 236 = some [.c .nilIface] := by kernel_rfl
theorem z237 : zeroT Tryz.prog 237 = some [.i .u32 (0), .i .i32 (0), .i .u32 (0), .c .nilIface, .c (.slice none 0 0)] := by kernel_rfl
theorem f237 : fieldsT Tryz.prog 237 = some [(0, 3, 234), (3, 1, 236), (4, 1, 30)] := by kernel_rfl
theorem z238 : zeroT Tryz.prog 238 = some [.i .u32 (0), .i .i32 (0), .i .u32 (0), .c .nilIface, .c (.slice none 0 0)] := by kernel_rfl
theorem f238 : fieldsT Tryz.prog 238 = some [(0, 3, 234), (3, 1, 236), (4, 1, 30)] := by kernel_rfl
theorem z239 : zeroT Tryz.prog 239 = some [.c .nilFunc] := by kernel_rfl
theorem z240 : zeroT Tryz.prog 240 = some [.c .nilFunc] := by kernel_rfl
theorem z241 : zeroT Tryz.prog 241 = some [.c (.pointer none)] := by kernel_rfl
theorem z243 : zeroT Tryz.prog 243 = some [.c .nilFunc] := by kernel_rfl
theorem z245 : zeroT Tryz.prog 245 = some [.c .nilFunc] := by kernel_rfl
theorem z246 : zeroT Tryz.prog 246 = some [.c .nilFunc] := by kernel_rfl
theorem z247 : zeroT Tryz.prog 247 = some [.c .nilFunc] := by kernel_rfl
theorem z248 : zeroT Tryz.prog 248 = some [.c .nilFunc] := by kernel_rfl
theorem z249 : zeroT Tryz.prog 249 = some [.c .nilFunc] := by kernel_rfl
theorem z250 : zeroT Tryz.prog 250 = some [.c .nilFunc] := by kernel_rfl
theorem z251 : zeroT Tryz.prog 251 = some [.c .nilFunc] := by kernel_rfl
theorem z252 : zeroT Tryz.prog 252 = some [.c .nilFunc] := by kernel_rfl
theorem z253 : zeroT Tryz.prog 253 = some [.c .nilFunc] := by kernel_rfl
theorem z254 : zeroT Tryz.prog 254 = some [.c .nilFunc] := by kernel_rfl
theorem z255 : zeroT Tryz.prog 255 = some [.i .u64 (0)] := by kernel_rfl
theorem z257 : zeroT Tryz.prog 257 = some [.c .nilFunc] := by kernel_rfl
theorem z258 : zeroT Tryz.prog 258 = some [.c .nilFunc] := by kernel_rfl
theorem z259 : zeroT Tryz.prog 259 = some [.c .nilFunc] := by kernel_rfl
theorem z260 : zeroT Tryz.prog 260 = some [.i .i64 (0), .s [], .s [], .s [], .s []] := by kernel_rfl
theorem f260 : fieldsT Tryz.prog 260 = some [(0, 1, 3), (1, 1, 9), (2, 1, 9), (3, 1, 9), (4, 1, 9)] := by kernel_rfl
theorem z261 : zeroT Tryz.prog 261 = some [.i .i64 (0), .s [], .s [], .s [], .s []] := by kernel_rfl
theorem f261 : fieldsT Tryz.prog 261 = some [(0, 1, 3), (1, 1, 9), (2, 1, 9), (3, 1, 9), (4, 1, 9)] := by kernel_rfl
theorem z262 : zeroT Tryz.prog 262 = some [.c .nilFunc] := by kernel_rfl
theorem z264 : zeroT Tryz.prog 264 = some [.c .nilFunc] := by kernel_rfl
theorem z266 : zeroT Tryz.prog 266 = some [.c .nilFunc] := by kernel_rfl
theorem z267 : zeroT Tryz.prog 267 = some [.c .nilFunc] := by kernel_rfl
theorem z268 : zeroT Tryz.prog 268 = some [.c (.pointer none)] := by kernel_rfl
theorem z269 : zeroT Tryz.prog 269 = some [.c .nilFunc] := by kernel_rfl
theorem z270 : zeroT Tryz.prog 270 = some [.c (.pointer none)] := by kernel_rfl
theorem z271 : zeroT Tryz.prog 271 = some [.c .nilFunc] := by kernel_rfl
theorem z272 : zeroT Tryz.prog 272 = some [.c .nilFunc] := by kernel_rfl
theorem z273 : zeroT Tryz.prog 273 = some [.c (.map none)] := by kernel_rfl
theorem z274 : zeroT Tryz.prog 274 = some [.c .nilFunc] := by kernel_rfl
theorem z275 : zeroT Tryz.prog 275 = some [.i .i64 (0), .i .i64 (0)] := by kernel_rfl
theorem f275 : fieldsT Tryz.prog 275 = some [(0, 1, 3), (1, 1, 3)] := by kernel_rfl
theorem z276 : zeroT Tryz.prog 276 = some [.i .i64 (0), .i .i64 (0)] := by kernel_rfl
theorem f276 : fieldsT Tryz.prog 276 = some [(0, 1, 3), (1, 1, 3)] := by kernel_rfl
theorem z277 : zeroT Tryz.prog 277 = some [.c .nilFunc] := by kernel_rfl
theorem z279 : zeroT Tryz.prog 279 = some [.c .nilFunc] := by kernel_rfl
theorem z280 : zeroT Tryz.prog 280 = some [.c .nilFunc] := by kernel_rfl
theorem z281 : zeroT Tryz.prog 281 = some [.c .nilFunc] := by kernel_rfl
theorem z283 : zeroT Tryz.prog 283 = some [.i .u8 (0), .i .u8 (0)] := by kernel_rfl
theorem f283 : fieldsT Tryz.prog 283 = some [(0, 1, 5), (1, 1, 5)] := by kernel_rfl
theorem z284 : zeroT Tryz.prog 284 = some [.i .u8 (0), .i .u8 (0)] := by kernel_rfl
theorem f284 : fieldsT Tryz.prog 284 = some [(0, 1, 5), (1, 1, 5)] := by kernel_rfl
theorem z285 : zeroT Tryz.prog 285 = some [.i .u8 (0), .i .u8 (0), .i .u8 (0), .i .u8 (0), .i .u8 (0), .i .u8 (0), .i .u8 (0), .i .u8 (0), .i .u8 (0), .i .u8 (0), .i .u8 (0), .i .u8 (0), .i .u8 (0), .i .u8 (0), .i .u8 (0), .i .u8 (0), .i .u8 (0), .i .u8 (0), .i .u8 (0), .i .u8 (0), .i .u8 (0), .i .u8 (0), .i .u8 (0), .i .u8 (0), .i .u8 (0), .i .u8 (0), .i .u8 (0), .i .u8 (0), .i .u8 (0), .i .u8 (0), .i .u8 (0), .i .u8 (0)] := by kernel_rfl
theorem z286 : zeroT Tryz.prog 286 = some [.c .nilFunc] := by kernel_rfl
theorem z287 : zeroT Tryz.prog 287 = some [.c (.pointer none)] := by kernel_rfl
theorem z288 : zeroT Tryz.prog 288 = some [.c .nilFunc] := by kernel_rfl
theorem z289 : zeroT Tryz.prog 289 = some [.c .nilFunc] := by kernel_rfl
theorem z290 : zeroT Tryz.prog 290 = some [.c (.pointer none)] := by kernel_rfl
theorem z291 : zeroT Tryz.prog 291 = some [.c (.pointer none), .c (.slice none 0 0)] := by kernel_rfl
theorem f291 : fieldsT Tryz.prog 291 = some [(0, 1, 290), (1, 1, 179)] := by kernel_rfl
theorem z292 : zeroT Tryz.prog 292 = some [.c (.pointer none), .c (.slice none 0 0)] := by kernel_rfl
theorem f292 : fieldsT Tryz.prog 292 = some [(0, 1, 290), (1, 1, 179)] := by kernel_rfl
theorem z293 : zeroT Tryz.prog 293 = some [.c .nilFunc] := by kernel_rfl
theorem z294 : zeroT Tryz.prog 294 = some [.c .nilIface] := by kernel_rfl
theorem z295 : zeroT Tryz.prog 295 = some [.c .nilIface] := by kernel_rfl
theorem z297 : zeroT Tryz.prog 297 = some [.c .nilFunc] := by kernel_rfl
theorem z298 : zeroT Tryz.prog 298 = some [.c .nilFunc] := by kernel_rfl
theorem z299 : zeroT Tryz.prog 299 = some [.c .nilFunc] := by kernel_rfl
theorem z300 : zeroT Tryz.prog 300 = some [.c .nilFunc] := by kernel_rfl
theorem z301 : zeroT Tryz.prog 301 = some [.c .nilFunc] := by kernel_rfl
theorem z302 : zeroT Tryz.prog 302 = some [.c .nilFunc] := by kernel_rfl
theorem z303 : zeroT Tryz.prog 303 = some [.i .i64 (0), .s [], .s [], .s [], .s []] := by kernel_rfl
theorem f303 : fieldsT Tryz.prog 303 = some [(0, 1, 3), (1, 1, 9), (2, 1, 9), (3, 1, 9), (4, 1, 9)] := by kernel_rfl
theorem z304 : zeroT Tryz.prog 304 = some [.c .nilFunc] := by kernel_rfl
theorem z305 : zeroT Tryz.prog 305 = some [.c .nilFunc] := by kernel_rfl
theorem z306 : zeroT Tryz.prog 306 = some [.c .nilFunc] := by kernel_rfl
theorem z307 : zeroT Tryz.prog 307 = some [.c (.pointer none)] := by kernel_rfl
theorem z308 : zeroT Tryz.prog 308 = some [.c (.slice none 0 0)] := by kernel_rfl
theorem z309 : zeroT Tryz.prog 309 = some [.c (.pointer none)] := by kernel_rfl
theorem z310 : zeroT Tryz.prog 310 = some [.c .nilFunc] := by kernel_rfl
theorem z311 : zeroT Tryz.prog 311 = some [.c (.pointer none)] := by kernel_rfl
theorem z312 : zeroT Tryz.prog 312 = some [.c .nilFunc] := by kernel_rfl
theorem z313 : zeroT Tryz.prog 313 = some [.c (.pointer none)] := by kernel_rfl
theorem z314 : zeroT Tryz.prog 314 = some [.c .nilFunc] := by kernel_rfl
theorem z315 : zeroT Tryz.prog 315 = some [.c (.pointer none)] := by kernel_rfl
theorem z316 : zeroT Tryz.prog 316 = some [.c .nilFunc] := by kernel_rfl
theorem z318 : zeroT Tryz.prog 318 = some [.c (.pointer none)] := by kernel_rfl
theorem z322 : zeroT Tryz.prog 322 = some [.c (.pointer none)] := by kernel_rfl
theorem z323 : zeroT Tryz.prog 323 = some [.c .nilFunc] := by kernel_rfl
theorem z324 : zeroT Tryz.prog 324 = some [.c (.pointer none)] := by kernel_rfl
theorem z325 : zeroT Tryz.prog 325 = some [.c .nilFunc] := by kernel_rfl
theorem z326 : zeroT Tryz.prog 326 = some [.c .nilFunc] := by kernel_rfl
theorem z327 : zeroT Tryz.prog 327 = some [.c .nilFunc] := by kernel_rfl
theorem z328 : zeroT Tryz.prog 328 = some [.c .nilFunc] := by kernel_rfl
theorem z329 : zeroT Tryz.prog 329 = some [.c .nilFunc] := by kernel_rfl
theorem z330 : zeroT Tryz.prog 330 = some [.c .nilFunc] := by kernel_rfl
theorem z331 : zeroT Tryz.prog 331 = some [.c (.pointer none)] := by kernel_rfl
theorem z332 : zeroT Tryz.prog 332 = some [.s []] := by kernel_rfl
theorem f332 : fieldsT Tryz.prog 332 = some [(0, 1, 9)] := by kernel_rfl
theorem z333 : zeroT Tryz.prog 333 = some [.s []] := by kernel_rfl
theorem f333 : fieldsT Tryz.prog 333 = some [(0, 1, 9)] := by kernel_rfl
theorem z334 : zeroT Tryz.prog 334 = some [.s [], .i .i64 (0), .s [], .s [], .s [], .s []] := by kernel_rfl
theorem f334 : fieldsT Tryz.prog 334 = some [(0, 1, 333), (1, 5, 303)] := by kernel_rfl
theorem z335 : zeroT Tryz.prog 335 = some [.s [], .i .i64 (0), .s [], .s [], .s [], .s []] := by kernel_rfl
theorem f335 : fieldsT Tryz.prog 335 = some [(0, 1, 333), (1, 5, 303)] := by kernel_rfl
theorem z336 : zeroT Tryz.prog 336 = some [.c .nilFunc] := by kernel_rfl
theorem z337 : zeroT Tryz.prog 337 = some [.c .nilFunc] := by kernel_rfl
theorem z338 : zeroT Tryz.prog 338 = some [.c .nilFunc] := by kernel_rfl
theorem z339 : zeroT Tryz.prog 339 = some [.c .nilFunc] := by kernel_rfl
theorem z340 : zeroT Tryz.prog 340 = some [.c .nilFunc] := by kernel_rfl
theorem z341 : zeroT Tryz.prog 341 = some [.c (.pointer none)] := by kernel_rfl
theorem z342 : zeroT Tryz.prog 342 = some [.c .nilFunc] := by kernel_rfl
theorem z343 : zeroT Tryz.prog 343 = some [.c .nilFunc] := by kernel_rfl
theorem z344 : zeroT Tryz.prog 344 = some [.c (.pointer none)] := by kernel_rfl
theorem z345 : zeroT Tryz.prog 345 = some [.c .nilFunc] := by kernel_rfl
theorem z346 : zeroT Tryz.prog 346 = some [.c (.pointer none), .s []] := by kernel_rfl
theorem f346 : fieldsT Tryz.prog 346 = some [(0, 1, 344), (1, 1, 9)] := by kernel_rfl
theorem z347 : zeroT Tryz.prog 347 = some [.c (.pointer none), .s []] := by kernel_rfl
theorem f347 : fieldsT Tryz.prog 347 = some [(0, 1, 344), (1, 1, 9)] := by kernel_rfl
theorem z348 : zeroT Tryz.prog 348 = some [.c (.pointer none)] := by kernel_rfl
theorem z349 : zeroT Tryz.prog 349 = some [.c (.slice none 0 0)] := by kernel_rfl
theorem z350 : zeroT Tryz.prog 350 = some [.s [], .i .i64 (0), .s [], .c (.pointer none), .c (.slice none 0 0)] := by kernel_rfl
theorem f350 : fieldsT Tryz.prog 350 = some [(0, 1, 9), (1, 1, 3), (2, 1, 9), (3, 1, 348), (4, 1, 349)] := by kernel_rfl
theorem z351 : zeroT Tryz.prog 351 = some [.s [], .i .i64 (0), .s [], .c (.pointer none), .c (.slice none 0 0)] := by kernel_rfl
theorem f351 : fieldsT Tryz.prog 351 = some [(0, 1, 9), (1, 1, 3), (2, 1, 9), (3, 1, 348), (4, 1, 349)] := by kernel_rfl
theorem z354 : zeroT Tryz.prog 354 = some [.c .nilFunc] := by kernel_rfl
theorem z355 : zeroT Tryz.prog 355 = some [.c (.pointer none)] := by kernel_rfl
theorem z356 : zeroT Tryz.prog 356 = some [.c .nilFunc] := by kernel_rfl
theorem z357 : zeroT Tryz.prog 357 = some [.c .nilFunc] := by kernel_rfl
theorem z358 : zeroT Tryz.prog 358 = some [.c .nilFunc] := by kernel_rfl
theorem z359 : zeroT Tryz.prog 359 = some [.c .nilFunc] := by kernel_rfl
theorem z360 : zeroT Tryz.prog 360 = some [.i .i64 (0)] := by kernel_rfl
theorem z362 : zeroT Tryz.prog 362 = some [.c .nilFunc] := by kernel_rfl
theorem z363 : zeroT Tryz.prog 363 = some [.c .nilFunc] := by kernel_rfl
theorem z364 : zeroT Tryz.prog 364 = some [.c .nilFunc] := by kernel_rfl
theorem z365 : zeroT Tryz.prog 365 = some [.c .nilFunc] := by kernel_rfl
theorem z366 : zeroT Tryz.prog 366 = some [.c .nilFunc] := by kernel_rfl
theorem z367 : zeroT Tryz.prog 367 = some [.c .nilFunc] := by kernel_rfl
theorem z368 : zeroT Tryz.prog 368 = some [.c (.pointer none)] := by kernel_rfl
theorem z369 : zeroT Tryz.prog 369 = some [.c .nilFunc] := by kernel_rfl
theorem z370 : zeroT Tryz.prog 370 = some [.c (.pointer none)] := by kernel_rfl
theorem z371 : zeroT Tryz.prog 371 = some [.c .nilFunc] := by kernel_rfl
theorem z372 : zeroT Tryz.prog 372 = some [.c .nilFunc] := by kernel_rfl
theorem z373 : zeroT Tryz.prog 373 = some [.c .nilFunc] := by kernel_rfl
theorem z378 : zeroT Tryz.prog 378 = some [.c .nilFunc] := by kernel_rfl
theorem z379 : zeroT Tryz.prog 379 = some [.c .nilFunc] := by kernel_rfl
theorem z380 : zeroT Tryz.prog 380 = some [.c (.pointer none)] := by kernel_rfl
theorem z381 : zeroT Tryz.prog 381 = some [.c .nilFunc] := by kernel_rfl
theorem z382 : zeroT Tryz.prog 382 = some [.c .nilFunc] := by kernel_rfl
theorem z383 : zeroT Tryz.prog 383 = some [.i .u64 (0)] := by kernel_rfl
theorem z384 : zeroT Tryz.prog 384 = some [.c .nilFunc] := by kernel_rfl
theorem z385 : zeroT Tryz.prog 385 = some [.c .nilFunc] := by kernel_rfl
theorem z386 : zeroT Tryz.prog 386 = some [.c .nilFunc] := by kernel_rfl
theorem z387 : zeroT Tryz.prog 387 = some [.c (.pointer none)] := by kernel_rfl
theorem z388 : zeroT Tryz.prog 388 = some [.c .nilFunc] := by kernel_rfl
theorem z389 : zeroT Tryz.prog 389 = some [.c .nilFunc] := by kernel_rfl
theorem z390 : zeroT Tryz.prog 390 = some [.c .nilFunc] := by kernel_rfl
theorem z391 : zeroT Tryz.prog 391 = some [.c .nilFunc] := by kernel_rfl
theorem z392 : zeroT Tryz.prog 392 = some [.c .nilFunc] := by kernel_rfl
theorem z396 : zeroT Tryz.prog 396 = some [.c .nilFunc] := by kernel_rfl
theorem z397 : zeroT Tryz.prog 397 = some [.c .nilFunc] := by kernel_rfl
theorem z398 : zeroT Tryz.prog 398 = some [.c (.pointer none)] := by kernel_rfl
theorem z399 : zeroT Tryz.prog 399 = some [.c (.pointer none)] := by kernel_rfl
theorem z400 : zeroT Tryz.prog 400 = some [.c .nilFunc] := by kernel_rfl
theorem z401 : zeroT Tryz.prog 401 = some [.c .nilFunc] := by kernel_rfl
theorem z402 : zeroT Tryz.prog 402 = some [.c .nilFunc] := by kernel_rfl
theorem z403 : zeroT Tryz.prog 403 = some [.c (.pointer none), .c (.pointer none), .c (.pointer none), .s []] := by kernel_rfl
theorem f403 : fieldsT Tryz.prog 403 = some [(0, 1, 17), (1, 1, 17), (2, 1, 17), (3, 1, 9)] := by kernel_rfl
theorem z404 : zeroT Tryz.prog 404 = some [.c (.pointer none), .c (.pointer none), .c (.pointer none), .s []] := by kernel_rfl
theorem f404 : fieldsT Tryz.prog 404 = some [(0, 1, 17), (1, 1, 17), (2, 1, 17), (3, 1, 9)] := by kernel_rfl
theorem z408 : zeroT Tryz.prog 408 = some [.c .nilFunc] := by kernel_rfl
theorem z409 : zeroT Tryz.prog 409 = some [.i .u8 (0)] := by kernel_rfl
theorem z410 : zeroT Tryz.prog 410 = some [.i .u8 (0)] := by kernel_rfl
theorem z411 : zeroT Tryz.prog 411 = some [.c .nilFunc] := by kernel_rfl
theorem z412 : zeroT Tryz.prog 412 = some [.i .i32 (0)] := by kernel_rfl
theorem z413 : zeroT Tryz.prog 413 = some [.i .i32 (0)] := by kernel_rfl
theorem z414 : zeroT Tryz.prog 414 = some [.i .u64 (0), .i .u64 (0), .i .u32 (0), .i .u8 (0), .i .u8 (0), .i .u8 (0), .i .u8 (0), .c .nilFunc, .c (.pointer none), .i .i32 (0), .i .i32 (0)] := by kernel_rfl
theorem f414 : fieldsT Tryz.prog 414 = some [(0, 1, 12), (1, 1, 12), (2, 1, 133), (3, 1, 409), (4, 1, 5), (5, 1, 5), (6, 1, 410), (7, 1, 411), (8, 1, 324), (9, 1, 412), (10, 1, 413)] := by kernel_rfl
theorem z415 : zeroT Tryz.prog 415 = some [.i .u64 (0), .i .u64 (0), .i .u32 (0), .i .u8 (0), .i .u8 (0), .i .u8 (0), .i .u8 (0), .c .nilFunc, .c (.pointer none), .i .i32 (0), .i .i32 (0)] := by kernel_rfl
theorem f415 : fieldsT Tryz.prog 415 = some [(0, 1, 12), (1, 1, 12), (2, 1, 133), (3, 1, 409), (4, 1, 5), (5, 1, 5), (6, 1, 410), (7, 1, 411), (8, 1, 324), (9, 1, 412), (10, 1, 413)] := by kernel_rfl
theorem z416 : zeroT Tryz.prog 416 = some [.c .nilFunc] := by kernel_rfl
theorem z417 : zeroT Tryz.prog 417 = some [.c (.slice none 0 0)] := by kernel_rfl
theorem z418 : zeroT Tryz.prog 418 = some [.c (.pointer none)] := by kernel_rfl
theorem z419 : zeroT Tryz.prog 419 = some [.c .nilIface] := by kernel_rfl
theorem z420 : zeroT Tryz.prog 420 = some [.c .nilIface] := by kernel_rfl
theorem z421 : zeroT Tryz.prog 421 = some [.c .nilIface] := by kernel_rfl
theorem z422 : zeroT Tryz.prog 422 = some [.c .nilIface] := by kernel_rfl
theorem z423 : zeroT Tryz.prog 423 = some [.c .nilFunc] := by kernel_rfl
theorem z425 : zeroT Tryz.prog 425 = some [.c .nilFunc] := by kernel_rfl
theorem z427 : zeroT Tryz.prog 427 = some [.c .nilIface] := by kernel_rfl
theorem f427 : fieldsT Tryz.prog 427 = some [(0, 1, 420)] := by kernel_rfl
theorem z428 : zeroT Tryz.prog 428 = some [.c .nilIface] := by kernel_rfl
theorem f428 : fieldsT Tryz.prog 428 = some [(0, 1, 420)] := by kernel_rfl
theorem z429 : zeroT Tryz.prog 429 = some [.c .nilFunc] := by kernel_rfl
attribute [go_sem] c0 b0 c1 b1 c2 b2 c3 b3 c4 b4 c5 b5 c6 b6 c7 b7 c8 b8 c9 b9 c10 b10 c11 b11 c12 b12 c13 b13 c14 b14 c15 b15 c16 b16 c17 b17 c18 b18 c19 b19 c20 b20 c21 b21 c22 b22 c23 b23 c24 b24 c25 b25 c26 b26 c27 b27 c28 b28 c29 b29 c30 b30 c31 b31 c32 b32 c33 b33 c34 b34 c35 b35 c36 b36 c37 b37 c38 b38 c39 b39 c40 b40 c41 b41 c42 b42 c43 b43 c44 b44 c45 b45 c46 b46 c47 b47 c48 b48 c49 b49 c50 b50 c51 b51 c52 b52 c53 b53 c54 b54 c55 b55 c56 b56 c57 b57 c58 b58 c59 b59 c60 b60 c61 b61 c62 b62 c63 b63 c64 b64 c65 b65 c66 b66 c67 b67 c68 b68 c69 b69 c70 b70 c71 b71 c72 b72 c73 b73 c74 b74 c75 b75 c76 b76 c77 b77 c78 b78 c79 b79 c80 b80 c81 b81 c82 b82 c83 b83 c84 b84 c85 b85 c86 b86 c87 b87 c88 b88 c89 b89 c90 b90 c91 b91 c92 b92 c93 b93 c94 b94 c95 b95 c96 b96 c97 b97 c98 b98 c99 b99 c100 b100 c101 b101 c102 b102 c103 b103 c104 b104 c105 b105 c106 b106 c107 b107 c108 b108 c109 b109 c110 b110 c111 b111 c112 b112 c113 b113 c114 b114 c115 b115 c116 b116 c117 b117 c118 b118 c119 b119 c120 b120 c121 b121 c122 b122 c123 b123 c124 b124 c125 b125 c126 b126 c127 b127 c128 b128 c129 b129 c130 b130 c131 b131 c132 b132 c133 b133 c134 b134 c135 b135 c136 b136 c137 b137 c138 b138 c139 b139 c140 b140 c141 b141 c142 b142 c143 b143 c144 b144 c145 b145 c146 b146 c147 b147 c148 b148 c149 b149 c150 b150 c151 b151 c152 b152 c153 b153 c154 b154 c155 b155 c156 b156 c157 b157 c158 b158 c159 b159 c160 b160 c161 b161 c162 b162 c163 b163 c164 b164 c165 b165 c166 b166 c167 b167 c168 b168 c169 b169 c170 b170 c171 b171 c172 b172 c173 b173 c174 b174 c175 b175 c176 b176 c177 b177 c178 b178 c179 b179 c180 b180 c181 b181 c182 b182 c183 b183 c184 b184 c185 b185 c186 b186 c187 b187 c188 b188 c189 b189 c190 b190 c191 b191 c192 b192 c193 b193 c194 b194 c195 b195 c196 b196 c197 b197 c198 b198 c199 b199 c200 b200 c201 b201 c202 b202 c203 b203 c204 b204 c205 b205 c206 b206 c207 b207 c208 b208 c209 b209 c210 b210 c211 b211 c212 b212 c213 b213 c214 b214 c215 b215 c216 b216 c217 b217 c218 b218 c219 b219 c220 b220 c221 b221 c222 b222 c223 b223 c227 b227 c228 b228 c229 b229 c230 b230 c231 b231 c232 b232 c233 b233 c234 b234 c235 b235 c236 b236 c237 b237 c238 b238 c239 b239 c240 b240 c241 b241 c242 b242 c243 b243 c244 b244 c245 b245 c246 b246 c247 b247 c248 b248 c249 b249 c250 b250 c251 b251 c252 b252 c253 b253 c254 b254 c255 b255 c256 b256 c257 b257 c258 b258 c259 b259 c260 b260 c261 b261 c262 b262 c263 b263 c264 b264 c265 b265 c266 b266 c267 b267 c268 b268 c269 b269 c270 b270 c271 b271 c272 b272 c273 b273 c274 b274 c275 b275 c276 b276 c277 b277 c278 b278 c279 b279 c280 b280 c281 b281 c283 b283 c284 b284 c285 b285 c286 b286 c287 b287 c288 b288 c289 b289 c290 b290 c291 b291 c292 b292 c293 b293 c294 b294 c295 b295 c296 b296 c297 b297 c298 b298 c299 b299 c300 b300 c301 b301 c302 b302 c303 b303 c304 b304 c305 b305 c306 b306 c307 b307 c308 b308 c309 b309 c310 b310 c311 b311 c312 b312 c313 b313 c314 b314 c315 b315 c316 b316 c318 b318 c322 b322 c323 b323 c324 b324 c325 b325 c326 b326 c327 b327 c328 b328 c329 b329 c330 b330 c331 b331 c332 b332 c333 b333 c334 b334 c335 b335 c336 b336 c337 b337 c338 b338 c339 b339 c340 b340 c341 b341 c342 b342 c343 b343 c344 b344 c345 b345 c346 b346 c347 b347 c348 b348 c349 b349 c350 b350 c351 b351 c354 b354 c355 b355 c356 b356 c357 b357 c358 b358 c359 b359 c360 b360 c361 b361 c362 b362 c363 b363 c364 b364 c365 b365 c366 b366 c367 b367 c368 b368 c369 b369 c370 b370 c371 b371 c372 b372 c373 b373 c377 b377 c378 b378 c379 b379 c380 b380 c381 b381 c382 b382 c383 b383 c384 b384 c385 b385 c386 b386 c387 b387 c388 b388 c389 b389 c390 b390 c391 b391 c392 b392 c395 b395 c396 b396 c397 b397 c398 b398 c399 b399 c400 b400 c401 b401 c402 b402 c403 b403 c404 b404 c408 b408 c409 b409 c410 b410 c411 b411 c412 b412 c413 b413 c414 b414 c415 b415 c416 b416 c417 b417 c418 b418 c419 b419 c420 b420 c421 b421 c422 b422 c423 b423 c424 b424 c425 b425 c426 b426 c427 b427 c428 b428 c429 b429 z1 z2 z3 z4 z5 z6 z7 f7 z8 f8 z9 z10 z11 z12 z13 f13 z14 f14 z15 z16 z17 z18 f18 z19 f19 z20 z21 z22 f22 z23 f23 z24 z25 f25 z26 f26 z27 z28 z29 z30 z31 z32 z33 f33 z34 f34 z35 z36 f36 z37 f37 z38 f38 z39 f39 z40 f40 z41 f41 z42 z43 z44 z45 f45 z46 f46 z47 z48 z49 f49 z50 f50 z52 z53 z54 f54 z55 f55 z56 f56 z57 f57 z58 f58 z59 f59 z60 z61 z63 z65 z66 z67 z68 z69 f69 z70 f70 z71 z72 z73 z74 z75 z76 z77 f77 z78 f78 z79 z80 z81 z82 z83 z84 z85 z87 z88 z89 z90 z91 f91 z92 z94 z95 z96 z97 f97 z98 f98 z100 z101 f101 z102 f102 z103 f103 z104 f104 z105 f105 z106 f106 z108 z109 z110 z111 z112 z113 z114 z116 z117 z118 z119 z120 z121 z122 z123 z124 z125 z127 z128 z129 z131 z132 z133 z135 z136 z137 z138 z139 z140 z141 z143 z145 z146 f146 z147 f147 z148 f148 z149 f149 z150 z151 z152 z153 f153 z154 f154 z155 z156 f156 z157 f157 z158 z159 z160 f160 z161 f161 z163 z164 z165 z166 z167 z168 z169 z170 z171 f171 z172 f172 z173 f173 z174 f174 z175 z176 z177 z178 z179 z180 z181 z183 z184 z185 z186 z187 z188 z190 z191 z192 z193 z194 z195 f195 z196 f196 z198 z199 z200 z201 z202 z203 z204 z205 z206 f206 z207 f207 z208 f208 z209 f209 z210 z211 z212 f212 z213 f213 z214 z215 z216 z217 z218 z219 z220 z221 z222 z223 z227 z228 z229 f229 z230 f230 z231 z232 z233 z234 z235 z236 z237 f237 z238 f238 z239 z240 z241 z243 z245 z246 z247 z248 z249 z250 z251 z252 z253 z254 z255 z257 z258 z259 z260 f260 z261 f261 z262 z264 z266 z267 z268 z269 z270 z271 z272 z273 z274 z275 f275 z276 f276 z277 z279 z280 z281 z283 f283 z284 f284 z285 z286 z287 z288 z289 z290 z291 f291 z292 f292 z293 z294 z295 z297 z298 z299 z300 z301 z302 z303 f303 z304 z305 z306 z307 z308 z309 z310 z311 z312 z313 z314 z315 z316 z318 z322 z323 z324 z325 z326 z327 z328 z329 z330 z331 z332 f332 z333 f333 z334 f334 z335 f335 z336 z337 z338 z339 z340 z341 z342 z343 z344 z345 z346 f346 z347 f347 z348 z349 z350 f350 z351 f351 z354 z355 z356 z357 z358 z359 z360 z362 z363 z364 z365 z366 z367 z368 z369 z370 z371 z372 z373 z378 z379 z380 z381 z382 z383 z384 z385 z386 z387 z388 z389 z390 z391 z392 z396 z397 z398 z399 z400 z401 z402 z403 f403 z404 f404 z408 z409 z410 z411 z412 z413 z414 f414 z415 f415 z416 z417 z418 z419 z420 z421 z422 z423 z425 z427 f427 z428 f428 z429
end GoD.TY

/-! What the document says, over lists of bytes. -/
namespace GoD
set_option linter.unusedVariables false
theorem cut_at {α : Type} {l : List α} {f i : Nat} (h1 : f ≤ i) (h2 : i < l.length) : l.drop f = (l.drop f).take (i - f) ++ l[i] :: l.drop (i + 1) := by
  have e : l.drop i = l[i] :: l.drop (i + 1) := List.drop_eq_getElem_cons h2
  rw [← e]
  have : l.drop i = (l.drop f).drop (i - f) := by rw [List.drop_drop]; congr 1; omega
  rw [this, List.take_append_drop]
theorem cut_snoc {α : Type} {l : List α} {f i : Nat} (h1 : f ≤ i) (h2 : i < l.length) : (l.drop f).take (i + 1 - f) = (l.drop f).take (i - f) ++ [l[i]] := by
  have h3 : i - f < (l.drop f).length := by simp; omega
  have : i + 1 - f = (i - f) + 1 := by omega
  rw [this, List.take_succ_eq_append_getElem h3, List.getElem_drop]
  congr 3; omega
theorem cut_all {α : Type} {l : List α} {f : Nat} : (l.drop f).take (l.length - f) = l.drop f := List.take_of_length_le (by simp)
def lowB (c : Int) : Int := if 65 ≤ c ∧ c ≤ 90 then c + 32 else c
def lowerL (xs : List Int) : List Int := xs.map lowB
def hexv (c : Int) : Int := if 48 ≤ c ∧ c ≤ 57 then c - 48 else if 97 ≤ c ∧ c ≤ 102 then c - 87 else if 65 ≤ c ∧ c ≤ 70 then c - 55 else -1
def decodeL : List Int → List Int
  | c :: a :: b :: t => if c = 37 ∧ 0 ≤ hexv a ∧ 0 ≤ hexv b then (16 * hexv a + hexv b) :: decodeL t else c :: decodeL (a :: b :: t)
  | l => l
theorem hexv_le (c : Int) : -1 ≤ hexv c ∧ hexv c ≤ 15 := by
  unfold hexv
  split
  · omega
  · split
    · omega
    · split <;> omega
theorem decodeL_hex {a b : Int} {t : List Int} (ha : 0 ≤ hexv a) (hb : 0 ≤ hexv b) : decodeL (37 :: a :: b :: t) = (16 * hexv a + hexv b) :: decodeL t := by rw [decodeL, if_pos ⟨rfl, ha, hb⟩]
theorem decodeL_other {c : Int} {t : List Int} (h : ∀ a b r, t = a :: b :: r → c = 37 → 0 ≤ hexv a → 0 ≤ hexv b → False) : decodeL (c :: t) = c :: decodeL t := by
  match t with
  | [] => rfl
  | [a] => simp [decodeL]
  | a :: b :: r => rw [decodeL, if_neg fun e => h a b r rfl e.1 e.2.1 e.2.2]
theorem decodeL_len : ∀ l : List Int, (decodeL l).length ≤ l.length
  | [] => by simp [decodeL]
  | [a] => by simp [decodeL]
  | [a, b] => by simp [decodeL]
  | c :: a :: b :: t => by
    have h1 := decodeL_len t
    have h2 := decodeL_len (a :: b :: t)
    unfold decodeL
    split <;> simp at * <;> omega
def splitL (sep : Int) : List Int → List (List Int)
  | [] => [[]]
  | c :: t => if c = sep then [] :: splitL sep t else match splitL sep t with
    | [] => [[c]]
    | p :: ps => (c :: p) :: ps
theorem splitL_ne (sep : Int) : ∀ l, splitL sep l ≠ []
  | [] => by simp [splitL]
  | c :: t => by
    unfold splitL
    split
    · simp
    · split <;> simp
theorem splitL_none {sep : Int} : ∀ {l : List Int}, sep ∉ l → splitL sep l = [l]
  | [], _ => rfl
  | c :: t, h => by
    rw [List.mem_cons, not_or] at h
    rw [splitL, if_neg fun e => h.1 e.symm, splitL_none h.2]
theorem splitL_cons {sep : Int} {r : List Int} : ∀ {l : List Int}, sep ∉ l → splitL sep (l ++ sep :: r) = l :: splitL sep r
  | [], _ => by simp [splitL]
  | c :: t, h => by
    rw [List.mem_cons, not_or] at h
    rw [List.cons_append, splitL, if_neg fun e => h.1 e.symm, splitL_cons h.2]
theorem splitL_len (sep : Int) : ∀ l : List Int, (splitL sep l).length ≤ l.length + 1
  | [] => by simp [splitL]
  | c :: t => by
    have ih := splitL_len sep t
    unfold splitL
    split
    · simp; omega
    · split <;> simp_all; omega
def partsL (xs : List Int) : List (List Int) :=
  if 1 < (splitL 46 xs).length ∧ (splitL 46 xs).getLast? = some [] then (splitL 46 xs).dropLast else splitL 46 xs
def digitsB (base : Int) (xs : List Int) : Bool := xs.all fun c => decide (0 ≤ hexv c ∧ hexv c < base)
def hexP : List Int → Bool
  | a :: b :: _ => a == 48 && (b == 120 || b == 88)
  | _ => false
def accV (base : Int) : Int → List Int → Option Int
  | n, [] => some n
  | n, c :: t => if base * n + hexv c ≥ 4294967296 then none else accV base (base * n + hexv c) t
def baseV (xs : List Int) : Int := if hexP xs then 16 else if 1 < xs.length ∧ xs.head? = some 48 then 8 else 10
def restV (xs : List Int) : List Int := if hexP xs then xs.drop 2 else if 1 < xs.length ∧ xs.head? = some 48 then xs.drop 1 else xs
def pieceV (xs : List Int) : Option Int := if xs = [] ∨ digitsB (baseV xs) (restV xs) = false then none else accV (baseV xs) 0 (restV xs)
theorem partsL_len (l : List Int) : (partsL l).length ≤ l.length + 1 := by
  have := splitL_len 46 l
  unfold partsL
  split <;> simp <;> omega
theorem partsL_take (l : List Int) : partsL l = (splitL 46 l).take (partsL l).length := by
  unfold partsL
  split
  · rw [List.dropLast_eq_take]; simp
  · simp
theorem partsL_ne (l : List Int) : partsL l ≠ [] := by
  have h0 := splitL_ne 46 l
  unfold partsL
  split
  · rename_i h
    intro e
    have := congrArg List.length e
    simp at this
    omega
  · exact h0
def okV : Option Int → Int × Bool
  | none => (0, false)
  | some n => (n, true)
def numL : Nat → List (List Int) → Option Int
  | _, [] => none
  | left, [p] => (pieceV p).bind fun n => if n < 2 ^ (8 * left) then some n else none
  | left, p :: q :: t => (pieceV p).bind fun n => if n > 255 then none else (numL (left - 1) (q :: t)).map fun v => n * 2 ^ (8 * (left - 1)) + v
theorem numL_more {left : Nat} {p : List Int} {r : List (List Int)} (h : r ≠ []) : numL left (p :: r) = (pieceV p).bind fun n => if n > 255 then none else (numL (left - 1) r).map fun v => n * 2 ^ (8 * (left - 1)) + v := by
  match r with
  | [] => exact absurd rfl h
  | q :: t => rfl
theorem splitL_mem {c : Int} : ∀ {l p : List Int}, p ∈ splitL c l → p.length ≤ l.length
  | [], p, h => by simp [splitL] at h; simp [h]
  | d :: t, p, h => by
    have ih := fun {p} => @splitL_mem c t p
    unfold splitL at h
    split at h
    · rcases List.mem_cons.1 h with h | h
      · simp [h]
      · have := ih h; simp; omega
    · split at h
      · simp at h; simp [h]
      · rename_i q qs e
        rcases List.mem_cons.1 h with h | h
        · have := ih (p := q) (by rw [e]; exact List.mem_cons_self); simp [h]; omega
        · have := ih (p := p) (by rw [e]; exact List.mem_cons_of_mem _ h); simp; omega
theorem pieceV_le {l : List Int} {n : Int} (h : pieceV l = some n) : 0 ≤ n ∧ n < 4294967296 := by
  have key : ∀ (b : Int) (hb : 0 ≤ b) (l : List Int) (n m : Int), 0 ≤ n → n < 4294967296 → (∀ c ∈ l, 0 ≤ hexv c) → accV b n l = some m → 0 ≤ m ∧ m < 4294967296 := by
    intro b hb l
    induction l with
    | nil => intro n m h0 h1 _ h; simp [accV] at h; omega
    | cons c t ih =>
      intro n m h0 h1 hc h
      rw [accV] at h
      split at h
      · cases h
      · rename_i h2
        have := Int.mul_nonneg hb h0
        have h3 := hc c List.mem_cons_self
        exact ih _ _ (by omega) (by omega) (fun x hx => hc x (List.mem_cons_of_mem _ hx)) h
  unfold pieceV at h
  split at h
  · cases h
  · rename_i h1
    have h2 : digitsB (baseV l) (restV l) = true := by
      cases hd : digitsB (baseV l) (restV l) with
      | true => rfl
      | false => exact absurd (.inr hd) h1
    refine key (baseV l) ?_ (restV l) 0 n (by omega) (by omega) (fun c hc => (of_decide_eq_true (List.all_eq_true.1 h2 c hc) : 0 ≤ hexv c ∧ _).1) h
    unfold baseV
    split
    · omega
    · split <;> omega
def numberL (xs : List Int) : Option Int := if 4 < (partsL xs).length then none else numL 4 (partsL xs)
def numericB (xs : List Int) : Bool := if hexP xs then digitsB 16 (xs.drop 2) else xs != [] && digitsB 10 xs
def decD (n : Nat) : List Int := if h : n < 10 then [48 + (n : Int)] else decD (n / 10) ++ [48 + ((n % 10 : Nat) : Int)]
def textL (a : Int) : List Int := decD (a / 16777216).toNat ++ [46] ++ decD (a / 65536 % 256).toNat ++ [46] ++ decD (a / 256 % 256).toNat ++ [46] ++ decD (a % 256).toNat
def forbB (c : Int) : Bool := decide (c ≤ 32) || decide (127 ≤ c) || [35, 37, 47, 58, 60, 62, 63, 64, 91, 92, 93, 94, 124].contains c
def hostL (xs : List Int) : Option (List Int) :=
  if lowerL (decodeL xs) = [] ∨ (lowerL (decodeL xs)).any forbB = true then none
  else if numericB ((partsL (lowerL (decodeL xs))).getLastD []) then (numberL (lowerL (decodeL xs))).map textL
  else some (lowerL (decodeL xs))
def addrL (xs : List Int) : Option Int := (numberL xs).bind fun n => if textL n = xs then some n else none
def domainB (xs : List Int) : Bool := hostL xs == some xs && (addrL xs).isNone
def blB (c : Int) : Bool := [9, 10, 12, 13, 32].contains c
def blanksG : List Int → List Int → List (List Int)
  | cur, [] => if cur = [] then [] else [cur]
  | cur, c :: t => if blB c = true then (if cur = [] then blanksG [] t else cur :: blanksG [] t) else blanksG (cur ++ [c]) t
def blanksL (xs : List Int) : List (List Int) := blanksG [] xs
theorem blanksG_blank {cur t : List Int} {c : Int} (h : blB c = true) : blanksG cur (c :: t) = (if cur = [] then [] else [cur]) ++ blanksG [] t := by
  rw [blanksG, if_pos h]
  split <;> simp
theorem blanksG_other {cur t : List Int} {c : Int} (h : blB c = false) : blanksG cur (c :: t) = blanksG (cur ++ [c]) t := by
  rw [blanksG, if_neg (by simp [h])]
theorem blB_iff {c : Int} : blB c = true ↔ c = 9 ∨ c = 10 ∨ c = 12 ∨ c = 13 ∨ c = 32 := by simp [blB]
theorem blanksG_len : ∀ (l cur : List Int), (blanksG cur l).length ≤ l.length + 1
  | [], cur => by unfold blanksG; split <;> simp
  | c :: t, cur => by
    have h1 := blanksG_len t
    unfold blanksG
    split
    · split
      · have := h1 []; simp; omega
      · have := h1 []; simp; omega
    · have := h1 (cur ++ [c]); simp; omega
def asciiB (xs : List Int) : Bool := xs.all fun c => decide (c < 128)
abbrev Dr := List Int × List (List Int)
def cspStep (acc : List Dr) (p : List Int) : List Dr :=
  if asciiB p = false ∨ blanksL p = [] then acc
  else if (acc.any fun d => d.1 == lowerL ((blanksL p).headD [])) = true then acc
  else acc ++ [(lowerL ((blanksL p).headD []), (blanksL p).drop 1)]
def cspL (xs : List Int) : List Dr := (splitL 59 xs).foldl cspStep []
def findL (l : List Dr) : List (List Int) → Option Dr
  | [] => none
  | n :: ns => match l.find? (fun d => d.1 == n) with
    | some d => some d
    | none => findL l ns
theorem asciiB_cons (c : Int) (t : List Int) : asciiB (c :: t) = (decide (c < 128) && asciiB t) := rfl
theorem digitsB_cons (b c : Int) (t : List Int) : digitsB b (c :: t) = (decide (0 ≤ hexv c ∧ hexv c < b) && digitsB b t) := rfl
def letterB (c : Int) : Bool := decide (97 ≤ c ∧ c ≤ 122) || decide (65 ≤ c ∧ c ≤ 90)
def digitB (c : Int) : Bool := decide (48 ≤ c ∧ c ≤ 57)
end GoD

/-! Texts of ASCII as the document answers them. -/
namespace GoD
open Go Go.Proofs
set_option linter.unusedVariables false
set_option linter.unusedSimpArgs false
def G0 : Nat → List V := fun g => if g = 0 then (List.range 256).map (fun c => V.i .u8 (Lib.firstT c)) else if g = 1 then (List.range 16).flatMap (fun i => [V.i .u8 (Lib.accLo i), V.i .u8 (Lib.accHi i)]) else if g = 2 then [V.ai .i64] else []
theorem fol : Tryz.prog.follows .mixedOrders = true := by kernel_rfl
theorem ofBA_nil : ofBA { data := #[] } = [] := rfl
theorem ofBA_mk (l : List UInt8) : ofBA { data := l.toArray } = l.map fun c => (c.toNat : Int) := rfl
attribute [go_sem] ofBA_nil ofBA_mk Ext.refl Ext.new
theorem beq_i (a b : Int) : (a == b) = decide (a = b) := by by_cases h : a = b <;> simp [h]
theorem bne_i (a b : Int) : (a != b) = !decide (a = b) := by by_cases h : a = b <;> simp [h]
theorem beq_l (a b : List Int) : (a == b) = decide (a = b) := by by_cases h : a = b <;> simp [h]
attribute [go_sem] beq_i bne_i beq_l
theorem cl1 (i n : Nat) : ((i : Int) + 1 < (n : Int)) = (i + 1 < n) := propext (by omega)
theorem cm1 (i n : Nat) : ((i : Int) + 1 ≤ (n : Int)) = (i + 1 ≤ n) := propext (by omega)
theorem cn1 (i : Nat) : (0 ≤ (i : Int) + 1) = True := propext ⟨fun _ => trivial, fun _ => by omega⟩
theorem ct1 (i : Nat) : ((i : Int) + 1).toNat = i + 1 := by omega
theorem cl2 (i n : Nat) : ((i : Int) + 2 < (n : Int)) = (i + 2 < n) := propext (by omega)
theorem cm2 (i n : Nat) : ((i : Int) + 2 ≤ (n : Int)) = (i + 2 ≤ n) := propext (by omega)
theorem cn2 (i : Nat) : (0 ≤ (i : Int) + 2) = True := propext ⟨fun _ => trivial, fun _ => by omega⟩
theorem ct2 (i : Nat) : ((i : Int) + 2).toNat = i + 2 := by omega
theorem cl3 (i n : Nat) : ((i : Int) + 3 < (n : Int)) = (i + 3 < n) := propext (by omega)
theorem cm3 (i n : Nat) : ((i : Int) + 3 ≤ (n : Int)) = (i + 3 ≤ n) := propext (by omega)
theorem cn3 (i : Nat) : (0 ≤ (i : Int) + 3) = True := propext ⟨fun _ => trivial, fun _ => by omega⟩
theorem ct3 (i : Nat) : ((i : Int) + 3).toNat = i + 3 := by omega
attribute [go_sem] cl1 cm1 cn1 ct1 cl2 cm2 cn2 ct2 cl3 cm3 cn3 ct3
theorem i64_1 {i : Nat} {l : List Int} (h : l.length ≤ 281474976710656) (hi : i < l.length) : IntKind.i64.wrap ((i : Int) + 1) = ((i + 1 : Nat) : Int) := by rw [w64 (by omega)]; rfl
theorem i64_2 {i : Nat} (hi : i < 1152921504606846976) : IntKind.i64.wrap ((i : Int) + 2) = ((i + 2 : Nat) : Int) := by rw [w64 (by omega)]; rfl
theorem i64_3 {i : Nat} (hi : i < 1152921504606846976) : IntKind.i64.wrap ((i : Int) + 2 + 1) = ((i + 3 : Nat) : Int) := by rw [w64 (by omega)]; omega
theorem i64_n {i : Nat} (hi : i < 1152921504606846976) : IntKind.i64.wrap ((i : Int) + 1) = ((i + 1 : Nat) : Int) := by rw [w64 (by omega)]; rfl
theorem sl_of {r : List (Option Loc)} {b o n z : Nat} {a : List V} {xs : List Value} (h : RL r (.sl b o n z :: a) xs) : n ≤ 281474976710656 ∧ ∃ ys, RL r a ys := by
  cases h with | cons h1 h2 =>
  refine ⟨?_, _, h2⟩
  cases h1 with
  | sl _ _ _ _ _ _ _ _ _ hb => exact hb
  | s0 => omega
  | sn => omega
/-- bytes, strings, as cells -/
def bts (l : List Int) : List V := l.map (.i .u8)
def sts (l : List (List Int)) : List V := l.map .s
theorem bts_nil : bts [] = [] := rfl
theorem sts_nil : sts [] = [] := rfl
theorem bts_len (l : List Int) : (bts l).length = l.length := by simp [bts]
theorem sts_len (l : List (List Int)) : (sts l).length = l.length := by simp [sts]
theorem bts_snoc (l : List Int) (c : Int) : bts l ++ [.i .u8 c] = bts (l ++ [c]) := by simp [bts]
theorem sts_snoc (l : List (List Int)) (c : List Int) : sts l ++ [.s c] = sts (l ++ [c]) := by simp [sts]
theorem bts_V (l : List Int) : bytesV (bts l) = some l := by
  induction l with
  | nil => rfl
  | cons c l ih =>
    have : bts (c :: l) = .i .u8 c :: bts l := rfl
    rw [this, bytesV, ih]; rfl
theorem ldN_all (c : List V) : ldN c 0 c.length = some c := by simp [ldN]
theorem ldN_n {c : List V} {n : Nat} (h : n = c.length) : ldN c 0 n = some c := by subst h; exact ldN_all c
theorem ldN_b {l : List Int} {n : Nat} (h : l.length = n) : ldN (bts l) 0 n = some (bts l) := ldN_n (by rw [bts_len, h])
theorem ldN_s {l : List (List Int)} {n : Nat} (h : l.length = n) : ldN (sts l) 0 n = some (sts l) := ldN_n (by rw [sts_len, h])
theorem bts_one (l : List Int) : (bts l).all isOne = true := by simp [bts, isOne]
theorem sts_one (l : List (List Int)) : (sts l).all isOne = true := by simp [sts, isOne]
theorem bts_flat (l : List Int) : (bts l).all flat = true := by simp [bts, flat]
theorem sts_flat (l : List (List Int)) : (sts l).all flat = true := by simp [sts, flat]
attribute [go_sem] bts_len sts_len bts_snoc sts_snoc bts_V bts_one sts_one bts_flat sts_flat
theorem Trim.sl {h h' : Heap} {m o n z : Nat} {b : Blk} (he : Ext h h') (hm : h.length ≤ m) (hml : m < h'.length) (hg : hget h' m = b) (hf : b.cells.all GoD.flat = true) : ∃ σ, Trim h (.sl m o n z) h' (.sl h.length o n z) (h ++ [b]) σ :=
  ⟨GoD.one h.length m, Trim.one (by simp [renV, GoD.one]) (by simp [bndV]) he hm hml hg hf⟩
theorem hget_at {h l : Heap} {n k : Nat} (e : h.length = n) : hget (h ++ l) (n + k) = l.getD k dead := by
  unfold hget
  rw [List.getD_eq_getElem?_getD, List.getD_eq_getElem?_getD, List.getElem?_append_right (by omega), show n + k - h.length = k by omega]
theorem hget_at0 {h l : Heap} {n : Nat} (e : h.length = n) : hget (h ++ l) n = l.getD 0 dead := hget_at (k := 0) e
theorem hget_lt {h l : Heap} {n : Nat} (e : n < h.length) : hget (h ++ l) n = hget h n := by
  unfold hget
  rw [List.getD_eq_getElem?_getD, List.getD_eq_getElem?_getD, List.getElem?_append_left e]
theorem Ext.app {h h1 : Heap} (e : Ext h h1) (l : Heap) : Ext h (h1 ++ l) := ⟨by have := e.1; simp; omega, fun i hi => by rw [hget_lt (by have := e.1; omega)]; exact e.2 i hi⟩
theorem Ext.dead {h h1 : Heap} {m : Nat} (e : Ext h h1) (hm : h.length ≤ m) : Ext h (h1.set m GoD.dead) := Ext.set e hm _
theorem getD0 (a : Blk) (l : Heap) : (a :: l).getD 0 dead = a := rfl
theorem getDS (a : Blk) (l : Heap) (k : Nat) : (a :: l).getD (k + 1) dead = l.getD k dead := rfl
theorem getD1 (a b : Blk) (l : Heap) : (a :: b :: l).getD 1 dead = b := rfl
theorem getD2 (a b c : Blk) (l : Heap) : (a :: b :: c :: l).getD 2 dead = c := rfl
attribute [go_sem] hget_at hget_at0 hget_lt Ext.app Ext.dead getD0 getD1 getD2 List.length_set
theorem snoc_take (l : List Int) {i : Nat} (h : i < l.length) : l.take (i + 1) = l.take i ++ [l[i]] := List.take_succ_eq_append_getElem h
theorem snoc_map (l : List Int) (f : Int → Int) {i : Nat} (h : i < l.length) : (l.take (i + 1)).map f = (l.take i).map f ++ [f l[i]] := by
  rw [List.take_succ_eq_append_getElem h, List.map_append]; rfl
theorem getD_of {l : List Int} {i : Nat} {c : Int} (h : i < l.length) (hc : l[i] = c) : l.getD i 0 = c := by rw [List.getD_eq_getElem?_getD, List.getElem?_eq_getElem h]; exact hc
/-- the strings in a block -/
def strsV : List V → Option (List (List Int))
  | [] => some []
  | .s l :: r => (strsV r).map (l :: ·)
  | _ => none
def strsAt (h : Heap) (b o n : Nat) : Option (List (List Int)) := match hget h b with
  | ⟨0, _, _⟩ => none
  | ⟨_ + 1, _, c⟩ => match ldN c o n with | some l => strsV l | none => none
theorem strsV_eq : ∀ {c : List V} {l : List (List Int)}, strsV c = some l → c = sts l
  | [], l, h => by simp [strsV] at h; subst h; rfl
  | v :: c, l, h => by
    cases v <;> simp [strsV] at h
    obtain ⟨a, h1, rfl⟩ := h
    rw [strsV_eq h1]; rfl
theorem strsV_map (l : List (List Int)) : strsV (sts l) = some l := by
  induction l with
  | nil => rfl
  | cons c l ih =>
    have : sts (c :: l) = .s c :: sts l := rfl
    rw [this, strsV, ih]; rfl
theorem strsAt_eq {h : Heap} {b o n : Nat} {l : List (List Int)} (hs : strsAt h b o n = some l) : ∃ st x c, hget h b = ⟨st + 1, x, c⟩ ∧ ldN c o n = some (sts l) ∧ l.length = n ∧ ∀ i (hi : i < l.length), ldN c (o + i) 1 = some [.s l[i]] := by
  unfold strsAt at hs
  split at hs
  · cases hs
  · rename_i st x c hg
    split at hs
    · rename_i l' hl
      have e := strsV_eq hs
      subst e
      refine ⟨st, x, c, hg, hl, ?_⟩
      unfold ldN at hl
      split at hl
      · rename_i hb
        have hl := Option.some.inj hl
        have hn : l.length = n := by have := congrArg List.length hl; simp [sts_len] at this; omega
        refine ⟨hn, fun i hi => ?_⟩
        have h1 : c[o + i]? = some (.s l[i]) := by
          have := congrArg (fun z : List V => z[i]?) hl
          simp only [List.getElem?_take, List.getElem?_drop, if_pos (show i < n by omega), sts, List.getElem?_map, List.getElem?_eq_getElem hi, Option.map_some] at this
          exact this
        have h2 : o + i < c.length := by omega
        rw [ldN, if_pos (by omega), List.drop_eq_getElem_cons h2]
        rw [List.getElem?_eq_getElem h2] at h1
        rw [Option.some.inj h1]; rfl
      · cases hl
    · cases hs
def rLetterC : Ct := fun args h => match args with | [.i .u8 c] => some (.b (letterB c), h) | _ => none
set_option maxHeartbeats 1000000
set_option maxRecDepth 100000
theorem rLetter_ok : CtOk Tryz.prog G0 116 rLetterC := by
  refine ct_plain (n := 1) fol sound_nil (by kernel_rfl) Tryz.func116 rfl fun args h v h' hc r xs H hr hx => ?_
  unfold rLetterC at hc; split at hc <;> (try split at hc) <;> cases hc
  rename_i c
  refine ⟨rfl, rfl, by simp [renV, bndV], ?_⟩
  by_cases h1 : 97 ≤ c <;> by_cases h2 : c ≤ 122 <;> by_cases h3 : 65 ≤ c <;> by_cases h4 : c ≤ 90 <;> (try omega) <;>
  simp -implicitDefEqProofs [go_sem, Tryz.f116, h1, h2, h3, h4, letterB]
def rDigitC : Ct := fun args h => match args with | [.i .u8 c] => some (.b (digitB c), h) | _ => none
theorem rDigit_ok : CtOk Tryz.prog G0 117 rDigitC := by
  refine ct_plain (n := 1) fol sound_nil (by kernel_rfl) Tryz.func117 rfl fun args h v h' hc r xs H hr hx => ?_
  unfold rDigitC at hc; split at hc <;> (try split at hc) <;> cases hc
  rename_i c
  refine ⟨rfl, rfl, by simp [renV, bndV], ?_⟩
  by_cases h1 : 48 ≤ c <;> by_cases h2 : c ≤ 57 <;> simp -implicitDefEqProofs [go_sem, Tryz.f117, h1, h2, digitB]
def rHasC : Ct := fun args h => match args with | [.s l, .i .u8 c] => some (.b (decide (c ∈ l)), h) | _ => none
theorem mem_drop {l : List Int} {i : Nat} {c d : Int} (hlt : i < l.length) (hc : l[i] = d) : c ∈ l.drop i ↔ c = d ∨ c ∈ l.drop (i + 1) := by rw [List.drop_eq_getElem_cons hlt, hc, List.mem_cons]
theorem rHas_ok : CtOk Tryz.prog G0 118 rHasC := by
  refine ct_plain (n := 2) fol sound_nil (by kernel_rfl) Tryz.func118 rfl fun args h v h' hc r xs H hr hx => ?_
  unfold rHasC at hc; split at hc <;> (try split at hc) <;> cases hc
  rename_i l c
  obtain ⟨⟨hs, hl⟩, _⟩ := str_of hx
  refine ⟨rfl, rfl, by simp [renV, bndV], ?_⟩
  simp -implicitDefEqProofs [go_sem, Tryz.f118]
  refine run_inv _ _ _ _ _ (fun (i : Nat) t h1 => i ≤ l.length ∧ get t 0 = .s l ∧ get t 1 = .i .u8 c ∧ get t 5 = .i .i64 i ∧ (c ∈ l.drop i ↔ c ∈ l) ∧ Ext h h1) (fun i => l.length - i) _ (x := 0) ⟨by simp, rfl, rfl, rfl, Iff.rfl, Ext.refl h⟩ ?_
  rintro i t h1 ⟨hi, t0, t1, t5, hd, he⟩ ih
  by_cases hlt : i < l.length
  · obtain ⟨d, hc⟩ : ∃ d, l[i] = d := ⟨_, rfl⟩
    have hdd := mem_drop (c := c) hlt hc
    by_cases c1 : d = c
    · simp -implicitDefEqProofs [go_sem, Tryz.f118, t0, t1, t5, hlt, hc, c1]
      exact ⟨hd.1 (hdd.2 (.inl c1.symm)), he⟩
    · simp -implicitDefEqProofs [go_sem, Tryz.f118, t0, t1, t5, hlt, hc, c1]
      refine ih (i + 1) _ _ (by omega) ⟨by omega, ?_⟩
      have hd' : c ∈ l.drop (i + 1) ↔ c ∈ l := ⟨fun h => hd.1 (hdd.2 (.inr h)), fun h => (hdd.1 (hd.2 h)).resolve_left fun e => c1 e.symm⟩
      simp -implicitDefEqProofs [go_sem, t0, t1, t5, i64_1 hl hlt, he, hd']
  · have e0 : l.drop i = [] := List.drop_eq_nil_of_le (by omega)
    simp -implicitDefEqProofs [go_sem, Tryz.f118, t0, t1, t5, hlt]
    rw [e0] at hd
    exact ⟨fun hm => by simpa using hd.2 hm, he⟩
def rLowerC : Ct := fun args h => match args with | [.s l] => if l.length ≤ 1048576 then some (.s (lowerL l), h) else none | _ => none
theorem rLower_ok : CtOk Tryz.prog G0 53 rLowerC := by
  refine ct_plain (n := 1) fol sound_nil (by kernel_rfl) Tryz.func53 rfl fun args h v h' hc r xs H hr hx => ?_
  unfold rLowerC at hc; split at hc <;> (try split at hc) <;> cases hc
  rename_i l hl
  obtain ⟨⟨hs, _⟩, _⟩ := str_of hx
  refine ⟨rfl, rfl, by simp [renV, bndV], ?_⟩
  simp -implicitDefEqProofs [go_sem, Tryz.f53]
  refine run_inv _ _ _ _ _ (fun (x : Nat × Nat × List Int) t h1 => x.1 ≤ l.length ∧ get t 0 = .s l ∧ get t 4 = .i .i64 x.1 ∧ get t 3 = .sl x.2.1 0 x.1 1 ∧ hget h1 x.2.1 = ⟨2, false, bts x.2.2⟩ ∧ h.length ≤ x.2.1 ∧ x.2.1 < h1.length ∧ Ext h h1 ∧ x.2.2 = lowerL (l.take x.1)) (fun x => l.length - x.1) _ (x := (0, h.length, [])) ⟨by simp, rfl, rfl, rfl, by simp -implicitDefEqProofs [go_sem, bts_nil], by simp, by simp, by simp -implicitDefEqProofs [go_sem], rfl⟩ ?_
  rintro ⟨i, m, acc⟩ t h1 ⟨hi, t0, t4, t3, hg, hm, hm', he, ha⟩ ih
  simp only at hi t0 t4 t3 hg hm hm' ha
  have hal : acc.length = i := by rw [ha]; simp [lowerL]; omega
  have hmn : m ≠ h1.length := by omega
  have hi6 : i < 1152921504606846976 := by omega
  by_cases hlt : i < l.length
  · obtain ⟨d, hc⟩ : ∃ d, l[i] = d := ⟨_, rfl⟩
    have hd := hs d (hc ▸ List.getElem_mem hlt)
    have e1 : (i + 1) ≤ 1099511627776 := by omega
    have hsn : lowerL (l.take (i + 1)) = acc ++ [lowB d] := by rw [ha, ← hc]; exact snoc_map l lowB hlt
    by_cases c1 : 65 ≤ d <;> by_cases c2 : d ≤ 90
    · have c3 : (d + 32) % 256 = d + 32 := by omega
      simp -implicitDefEqProofs [go_sem, Tryz.f53, t0, t3, t4, hlt, hc, c1, c2, c3, hg, hm', ldN_b hal, e1, hmn]
      refine ih (i + 1, h1.length + 1, acc ++ [lowB d]) _ _ (by simp; omega) ⟨hlt, ?_⟩
      simp -implicitDefEqProofs [go_sem, t0, t3, t4, hsn, lowB, c1, c2, i64_n hi6, he, hm]; omega
    all_goals
      simp -implicitDefEqProofs [go_sem, Tryz.f53, t0, t3, t4, hlt, hc, c1, c2, hg, hm', ldN_b hal, e1, hmn]
      refine ih (i + 1, h1.length + 1, acc ++ [lowB d]) _ _ (by simp; omega) ⟨hlt, ?_⟩
      simp -implicitDefEqProofs [go_sem, t0, t3, t4, hsn, lowB, c1, c2, i64_n hi6, he, hm]; omega
  · have e : i = l.length := by omega
    rw [e, List.take_length] at ha
    simp -implicitDefEqProofs [go_sem, Tryz.f53, t0, t3, t4, hlt, hg, hm', ldN_b (hal.trans e), e, he]
    exact ha
end GoD

/-! Texts of ASCII as the document answers them: lists. -/
namespace GoD
open Go Go.Proofs
set_option linter.unusedVariables false
set_option linter.unusedSimpArgs false
set_option maxHeartbeats 1000000
set_option maxRecDepth 100000
def rSameC : Ct := fun args h => match args with | [.s l, .s m] => if l.length ≤ 1048576 ∧ m.length ≤ 1048576 then some (.b (decide (lowerL l = lowerL m)), h) else none | _ => none
theorem rSame_ok : CtOk Tryz.prog G0 141 rSameC := by
  refine ct_plain (n := 2) fol (sound_cons rLower_ok sound_nil) (by kernel_rfl) Tryz.func141 rfl fun args h v h' hc r xs H hr hx => ?_
  unfold rSameC at hc; split at hc <;> (try split at hc) <;> cases hc
  rename_i l m hl
  refine ⟨rfl, rfl, by simp [renV, bndV], ?_⟩
  simp -implicitDefEqProofs [go_sem, Tryz.f141, rLowerC, hl.1, hl.2]
def rInC : Ct := fun args h => match args with | [.s l, .sl b o n 1] => (match strsAt h b o n with | some y => some (.b (decide (l ∈ y)), h) | none => none) | _ => none
theorem mem_drop' {α : Type} {l : List α} {i : Nat} {c d : α} (hlt : i < l.length) (hc : l[i] = d) : c ∈ l.drop i ↔ c = d ∨ c ∈ l.drop (i + 1) := by rw [List.drop_eq_getElem_cons hlt, hc, List.mem_cons]
theorem rIn_ok : CtOk Tryz.prog G0 23 rInC := by
  refine ct_plain (n := 2) fol sound_nil (by kernel_rfl) Tryz.func23 rfl fun args h v h' hc r xs H hr hx => ?_
  unfold rInC at hc; split at hc <;> (try split at hc) <;> cases hc
  rename_i l b o n _ y hy
  obtain ⟨st, xx, c, hg, hld, hn, hc⟩ := strsAt_eq hy
  obtain ⟨hs, _, hx2⟩ := str_of hx
  have hn6 := (sl_of hx2).1
  refine ⟨rfl, rfl, by simp [renV, bndV], ?_⟩
  simp -implicitDefEqProofs [go_sem, Tryz.f23]
  refine run_inv _ _ _ _ _ (fun (i : Nat) t h1 => i ≤ n ∧ get t 0 = .s l ∧ get t 1 = .sl b o n 1 ∧ get t 5 = .i .i64 i ∧ (l ∈ y.drop i ↔ l ∈ y) ∧ Ext h h1 ∧ hget h1 b = ⟨st + 1, xx, c⟩) (fun i => n - i) _ (x := 0) ⟨by simp, rfl, rfl, rfl, Iff.rfl, Ext.refl h, hg⟩ ?_
  rintro i t h1 ⟨hi, t0, t1, t5, hd, he, hg1⟩ ih
  have hi6 : i < 1152921504606846976 := by omega
  by_cases hlt : i < n
  · have hlt' : i < y.length := by omega
    obtain ⟨d, hdd⟩ : ∃ d, y[i] = d := ⟨_, rfl⟩
    have hm := mem_drop' (c := l) hlt' hdd
    have hc1 := hc i hlt'
    rw [hdd] at hc1
    by_cases c1 : d = l
    · simp -implicitDefEqProofs [go_sem, Tryz.f23, t0, t1, t5, hlt, hc1, hg1, c1]
      exact ⟨hd.1 (hm.2 (.inl c1.symm)), he⟩
    · simp -implicitDefEqProofs [go_sem, Tryz.f23, t0, t1, t5, hlt, hc1, hg1, c1]
      refine ih (i + 1) _ _ (by omega) ⟨by omega, ?_⟩
      have hd' : l ∈ y.drop (i + 1) ↔ l ∈ y := ⟨fun h => hd.1 (hm.2 (.inr h)), fun h => (hm.1 (hd.2 h)).resolve_left fun e => c1 e.symm⟩
      simp -implicitDefEqProofs [go_sem, t0, t1, t5, i64_n hi6, he, hd', hg1]
  · have e0 : y.drop i = [] := List.drop_eq_nil_of_le (by omega)
    simp -implicitDefEqProofs [go_sem, Tryz.f23, t0, t1, t5, hlt]
    rw [e0] at hd
    exact ⟨fun hm => by simpa using hd.2 hm, he⟩
def rSplitC : Ct := fun args h => match args with | [.s l, .i .u8 c] => if l.length ≤ 1048576 then some (.sl h.length 0 (splitL c l).length 1, h ++ [⟨2, false, sts (splitL c l)⟩]) else none | _ => none
theorem rSplit_ok : CtOk Tryz.prog G0 206 rSplitC := by
  refine ct_run (n := 2) fol sound_nil (by kernel_rfl) Tryz.func206 rfl fun args h v h' hc r xs H hr hx => ?_
  unfold rSplitC at hc; split at hc <;> (try split at hc) <;> cases hc
  rename_i l c hl
  obtain ⟨⟨hs, _⟩, _⟩ := str_of hx
  refine ⟨rfl, ?_⟩
  simp -implicitDefEqProofs [go_sem, Tryz.f206]
  refine run_inv _ _ _ _ _ (fun (x : Nat × Nat × Nat × List (List Int)) t h1 => x.1 ≤ l.length ∧ x.2.1 ≤ x.1 ∧ get t 0 = .s l ∧ get t 1 = .i .u8 c ∧ get t 7 = .i .i64 x.1 ∧ get t 6 = .i .i64 x.2.1 ∧ get t 5 = .sl x.2.2.1 0 x.2.2.2.length 1 ∧ hget h1 x.2.2.1 = ⟨2, false, sts x.2.2.2⟩ ∧ h.length ≤ x.2.2.1 ∧ x.2.2.1 < h1.length ∧ Ext h h1 ∧ c ∉ (l.drop x.2.1).take (x.1 - x.2.1) ∧ x.2.2.2 ++ splitL c (l.drop x.2.1) = splitL c l) (fun x => l.length - x.1) _ (x := (0, 0, h.length + 1, [])) ⟨by simp, by simp, rfl, rfl, rfl, rfl, rfl, by simp -implicitDefEqProofs [go_sem, sts_nil], by simp, by simp, by simp -implicitDefEqProofs [go_sem], by simp, by simp⟩ ?_
  rintro ⟨i, f, m, acc⟩ t h1 ⟨hi, hf, t0, t1, t7, t6, t5, hg, hm, hm', he, hno, ha⟩ ih
  simp only at hi hf t0 t1 t7 t6 t5 hg hm hm' hno ha
  have hal : acc.length ≤ l.length + 1 := by have := congrArg List.length ha; have := splitL_len c l; simp at *; omega
  have hmn : m ≠ h1.length := by omega
  have hi6 : i < 1152921504606846976 := by omega
  have e1 : (acc.length + 1) * 16 ≤ 1099511627776 := by omega
  by_cases hlt : i < l.length
  · obtain ⟨d, hc⟩ : ∃ d, l[i] = d := ⟨_, rfl⟩
    by_cases c1 : d = c
    · subst c1
      simp -implicitDefEqProofs [go_sem, Tryz.f206, t0, t1, t7, t6, t5, hlt, hf, hi, hc, hg, hm', ldN_s rfl, e1, hmn]
      refine ih (i + 1, i + 1, h1.length + 1, acc ++ [(l.drop f).take (i - f)]) _ _ (by simp; omega) ⟨hlt, by simp, ?_⟩
      simp -implicitDefEqProofs [go_sem, t0, t1, t7, t6, t5, i64_n hi6, he, hm]
      refine ⟨by omega, ?_⟩
      rw [← ha, cut_at hf hlt, hc, splitL_cons hno, ← hc, ← cut_at hf hlt]
    · simp -implicitDefEqProofs [go_sem, Tryz.f206, t0, t1, t7, t6, t5, hlt, hc, c1]
      refine ih (i + 1, f, m, acc) _ _ (by simp; omega) ⟨hlt, by simp; omega, ?_⟩
      simp -implicitDefEqProofs [go_sem, t0, t1, t7, t6, t5, i64_n hi6, he, hm, hg, hm', cut_snoc hf hlt, hno, hc]
      exact ⟨fun e => c1 e.symm, ha⟩
  · have e : i = l.length := by omega
    simp -implicitDefEqProofs [go_sem, Tryz.f206, t0, t1, t7, t6, t5, hlt, hg, hm', ldN_s rfl, e1, hmn, Nat.le_trans hf hi, e]
    rw [e, cut_all] at hno
    rw [splitL_none hno] at ha
    have ha' := congrArg List.length ha
    rw [← ha]
    simp only [List.length_append, List.length_singleton]
    exact Trim.sl (by simp -implicitDefEqProofs [go_sem, he, hm]) (by have := he.1; omega) (by simp) (by simp -implicitDefEqProofs [go_sem]) (by simp -implicitDefEqProofs [go_sem])
end GoD

/-! Texts of ASCII as the document answers them: what stands between blanks; decimals. -/
namespace GoD
open Go Go.Proofs
set_option linter.unusedVariables false
set_option linter.unusedSimpArgs false
set_option maxHeartbeats 4000000
set_option maxRecDepth 100000
def rBlanksC : Ct := fun args h => match args with | [.s l] => if l.length ≤ 1048576 then some (.sl h.length 0 (blanksL l).length 1, h ++ [⟨2, false, sts (blanksL l)⟩]) else none | _ => none
theorem rBlanks_ok : CtOk Tryz.prog G0 207 rBlanksC := by
  refine ct_run (n := 1) fol sound_nil (by kernel_rfl) Tryz.func207 rfl fun args h v h' hc r xs H hr hx => ?_
  unfold rBlanksC at hc; split at hc <;> (try split at hc) <;> cases hc
  rename_i l hl
  obtain ⟨⟨hs, _⟩, _⟩ := str_of hx
  refine ⟨rfl, ?_⟩
  simp -implicitDefEqProofs [go_sem, Tryz.f207]
  refine run_inv _ _ _ _ _ (fun (x : Nat × Int × List Int × Nat × List (List Int)) t h1 => x.1 ≤ l.length + 1 ∧ get t 0 = .s l ∧ get t 5 = .i .i64 x.1 ∧ get t 4 = .i .i64 x.2.1 ∧ get t 3 = .sl x.2.2.2.1 0 x.2.2.2.2.length 1 ∧ hget h1 x.2.2.2.1 = ⟨2, false, sts x.2.2.2.2⟩ ∧ h.length ≤ x.2.2.2.1 ∧ x.2.2.2.1 < h1.length ∧ Ext h h1 ∧ x.2.2.2.2.length ≤ x.1 ∧ (x.1 ≤ l.length → x.2.2.2.2 ++ blanksG x.2.2.1 (l.drop x.1) = blanksL l) ∧ (x.1 = l.length + 1 → x.2.2.2.2 = blanksL l) ∧ ((x.2.1 = -1 ∧ x.2.2.1 = []) ∨ ∃ f : Nat, x.2.1 = f ∧ f < x.1 ∧ x.2.2.1 = (l.drop f).take (x.1 - f))) (fun x => l.length + 1 - x.1) _ (x := (0, -1, [], h.length + 1, [])) ⟨by simp, rfl, rfl, rfl, rfl, by simp -implicitDefEqProofs [go_sem, sts_nil], by simp, by simp, by simp -implicitDefEqProofs [go_sem], by simp, by simp [blanksL], by simp, by simp⟩ ?_
  rintro ⟨i, f, cur, m, acc⟩ t h1 ⟨hi, t0, t5, t4, t3, hg, hm, hm', he, hal, ha, hz, hf⟩ ih
  simp only at hi t0 t5 t4 t3 hg hm hm' hal ha hz hf
  have hmn : m ≠ h1.length := by omega
  have hi6 : i < 1152921504606846976 := by omega
  have e1 : (acc.length + 1) * 16 ≤ 1099511627776 := by omega
  by_cases hle : i ≤ l.length
  · have ha := ha hle
    have i0 : (i : Int) ≤ l.length := by omega
    by_cases hlt : i < l.length
    · obtain ⟨d, hc⟩ : ∃ d, l[i] = d := ⟨_, rfl⟩
      have hdr : l.drop i = d :: l.drop (i + 1) := by rw [List.drop_eq_getElem_cons hlt, hc]
      have hne : ¬ i = l.length := by omega
      have hne' : ¬ (i : Int) = l.length := by omega
      rw [hdr] at ha
      by_cases hb : blB d = true
      · rw [blanksG_blank hb] at ha
        have hb := blB_iff.1 hb
        rcases hf with ⟨rfl, rfl⟩ | ⟨f, rfl, hfi, hcur⟩
        · rcases hb with c1 | c1 | c1 | c1 | c1
          all_goals
            simp -implicitDefEqProofs [go_sem, Tryz.f207, t0, t5, t4, t3, hle, hlt, hne, hne', hc, c1]
            refine ih (i + 1, -1, [], m, acc) _ _ (by simp; omega) ⟨by simp; omega, ?_⟩
            simp -implicitDefEqProofs [go_sem, t0, t5, t4, t3, i64_n hi6, he, hm, hg, hm', blanksL]
            simp [blanksL] at ha
            exact ⟨by omega, fun _ => ha, fun e => by omega⟩
        · have hcn : cur ≠ [] := by rw [hcur]; intro e; have := congrArg List.length e; simp at this; omega
          rw [if_neg hcn] at ha
          have hfi' : f ≤ i := by omega
          rcases hb with c1 | c1 | c1 | c1 | c1
          all_goals
            simp -implicitDefEqProofs [go_sem, Tryz.f207, t0, t5, t4, t3, hle, hlt, hne, hne', hc, c1, hg, hm', ldN_s rfl, e1, hmn, hfi']
            refine ih (i + 1, -1, [], h1.length + 1, acc ++ [cur]) _ _ (by simp; omega) ⟨by simp; omega, ?_⟩
            simp -implicitDefEqProofs [go_sem, t0, t5, t4, t3, i64_n hi6, he, hm, hg, hm', ← hcur]
            simp at ha
            exact ⟨by omega, by omega, fun _ => ha, fun e => by omega⟩
      · have hb' : blB d = false := by simpa using hb
        rw [blanksG_other hb'] at ha
        have hb := mt blB_iff.2 hb
        simp only [not_or] at hb
        obtain ⟨c1, c2, c3, c4, c5⟩ := hb
        rcases hf with ⟨rfl, rfl⟩ | ⟨f, rfl, hfi, hcur⟩
        · simp -implicitDefEqProofs [go_sem, Tryz.f207, t0, t5, t4, t3, hle, hlt, hne, hne', hc, c1, c2, c3, c4, c5]
          refine ih (i + 1, i, [d], m, acc) _ _ (by simp; omega) ⟨by simp; omega, ?_⟩
          simp -implicitDefEqProofs [go_sem, t0, t5, t4, t3, i64_n hi6, he, hm, hg, hm']
          exact ⟨by omega, fun _ => ha, fun e => by omega, ⟨i, rfl, by omega, by rw [cut_snoc (Nat.le_refl i) hlt, hc]; simp⟩⟩
        · have hf0 : ¬ ((f : Int) < 0) := by omega
          simp -implicitDefEqProofs [go_sem, Tryz.f207, t0, t5, t4, t3, hle, hlt, hne, hne', hc, c1, c2, c3, c4, c5, hf0]
          refine ih (i + 1, f, cur ++ [d], m, acc) _ _ (by simp; omega) ⟨by simp; omega, ?_⟩
          simp -implicitDefEqProofs [go_sem, t0, t5, t4, t3, i64_n hi6, he, hm, hg, hm']
          exact ⟨by omega, fun _ => ha, fun e => by omega, ⟨f, rfl, by omega, by rw [cut_snoc (by omega) hlt, hc, hcur]⟩⟩
    · have e : i = l.length := by omega
      rw [e, List.drop_length, blanksG] at ha
      rcases hf with ⟨rfl, rfl⟩ | ⟨f, rfl, hfi, hcur⟩
      · simp -implicitDefEqProofs [go_sem, Tryz.f207, t0, t5, t4, t3, e]
        refine ih (i + 1, -1, [], m, acc) _ _ (by simp; omega) ⟨by simp; omega, ?_⟩
        simp -implicitDefEqProofs [go_sem, t0, t5, t4, t3, he, hm, hg, hm', (show IntKind.i64.wrap ((l.length : Int) + 1) = ((l.length + 1 : Nat) : Int) from e ▸ i64_n hi6), e]
        simp at ha
        exact ⟨by omega, fun e => by omega, ha⟩
      · have hcn : cur ≠ [] := by rw [hcur]; intro e; have := congrArg List.length e; simp at this; omega
        rw [if_neg hcn] at ha
        have hfi' : f ≤ l.length := by omega
        rw [e] at hcur
        simp -implicitDefEqProofs [go_sem, Tryz.f207, t0, t5, t4, t3, e, hg, hm', ldN_s rfl, e1, hmn, hfi']
        refine ih (i + 1, -1, [], h1.length + 1, acc ++ [cur]) _ _ (by simp; omega) ⟨by simp; omega, ?_⟩
        simp -implicitDefEqProofs [go_sem, t0, t5, t4, t3, he, hm, hg, hm', hcur, (show IntKind.i64.wrap ((l.length : Int) + 1) = ((l.length + 1 : Nat) : Int) from e ▸ i64_n hi6), e]
        rw [hcur] at ha
        exact ⟨by omega, by omega, fun e => by omega, ha⟩
  · have hz := hz (by omega)
    simp -implicitDefEqProofs [go_sem, Tryz.f207, t0, t5, t4, t3, hle]
    rw [hz]
    exact Trim.sl he hm hm' (by rw [hg, hz]) (by simp -implicitDefEqProofs [go_sem])
end GoD
